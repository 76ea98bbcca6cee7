/- The law 'FrameLengths' returns true for all arguments: what its proof stands on, part 7. -/
import Derived.Test.YteikngjiaboeaaaZFrameLengths6
import Derived.OpenShut
namespace Go.Proofs.Yteikngjiaboeaaa.Am
open Go
set_option linter.unusedVariables false
set_option linter.unusedSimpArgs false
abbrev BL := List (Option Blk × Option Am.Loc)
def CompR (r : Rho) (k : Nat) (bl : BL) : Prop := ∀ i p, bl[i]? = some p → r (k + i) = p.2
def CompH (h : H) (k : Nat) (bl : BL) : Prop := ∀ i p, bl[i]? = some p → ∀ B, p.1 = some B → h.get (k + i) = some B
def BlkOK (W : World) (r : Rho) (p : Option Blk × Option Am.Loc) : Prop := ∀ B, p.1 = some B → ∃ L c e fz, p.2 = some L ∧ W.heap[L.b]? = some (.cells c e fz) ∧ L.es = B.es ∧ B.cells.length ≤ L.lim ∧ L.o + L.lim ≤ c.size ∧ B.ro = true ∧
  ∀ (i : Nat) (v : Value), B.cells[i]? = some v → v.oneCell' = true ∧ ∃ v', c[L.o + i]? = some v' ∧ VR r v v'
theorem CompR.left {r : Rho} {k : Nat} {a b : BL} (h : CompR r k (a ++ b)) : CompR r k a := fun i p hp => h i p (by rw [List.getElem?_append_left (List.getElem?_eq_some_iff.1 hp).1]; exact hp)
theorem CompR.right {r : Rho} {k : Nat} {a b : BL} (h : CompR r k (a ++ b)) : CompR r (k + a.length) b := fun i p hp => by
  have := h (a.length + i) p (by rw [List.getElem?_append_right (by omega), Nat.add_sub_cancel_left]; exact hp)
  rw [← this]; congr 1; omega
theorem CompH.left {r : H} {k : Nat} {a b : BL} (h : CompH r k (a ++ b)) : CompH r k a := fun i p hp => h i p (by rw [List.getElem?_append_left (List.getElem?_eq_some_iff.1 hp).1]; exact hp)
theorem CompH.right {r : H} {k : Nat} {a b : BL} (h : CompH r k (a ++ b)) : CompH r (k + a.length) b := fun i p hp B hB => by
  have := h (a.length + i) p (by rw [List.getElem?_append_right (by omega), Nat.add_sub_cancel_left]; exact hp) B hB
  rw [← this]; congr 1; omega
abbrev Lay (α : Type) := H → α → List Value → Prop
def Given (W : World) (k n : Nat) {α : Type} (L : Lay α) (ok : α → Prop) (cs : List Value) : Prop :=
  ∃ (a : α) (bl : BL) (acs : List Value), acs.length = n ∧ acs.all (·.oneCell') = true ∧ (∀ r, CompR r k bl → (∀ p ∈ bl, BlkOK W r p) ∧ VL r acs cs) ∧ (∀ h, CompH h k bl → L h a acs) ∧ ok a
def OpensL (P : Program) (t : TypeId) {α : Type} (L : Lay α) (n : Nat) (ok : α → Prop) : Prop :=
  P.cellsOf t = n ∧ ∀ {Hh : Type} (enc : TypeId × Value → Hh) (W : World) (held : Bool) (fuel : Nat) (cs : List Value) (x : DataW Hh × List MemPlace), DataW.trod enc P W 0 (fun _ => true) held fuel t cs = some x → ∀ k, Given W k n L ok cs
section
variable {P : Program} {t e : TypeId}
theorem given_plain {W : World} {k : Nat} {α : Type} {L : Lay α} {ok : α → Prop} {v : Value} (a : α) (hp : plain1 v = true) (hL : ∀ h, L h a [v]) (ho : ok a) : Given W k 1 L ok [v] :=
  ⟨a, [], [v], rfl, by simp [oneCell_of_plain1 hp], fun r _ => ⟨fun p hp => by simp at hp, VL.cons (VR.of_plain1 hp) (VL.nil r)⟩, fun h _ => hL h, ho⟩
def layU8 : Lay UInt8 := fun _ a cs => cs = [.int .u8 ((a.toNat : Nat) : Int)]
def layU64 : Lay UInt64 := fun _ a cs => cs = [.int .u64 ((a.toNat : Nat) : Int)]
def layI64 : Lay Int64 := fun _ a cs => cs = [.int .i64 a.toInt]
def layStr : Lay (List UInt8) := fun _ a cs => cs = [.string (bs a)]
theorem OpensL.u8 (ht : P.underlying t = some (.int .u8)) (hc : P.cellsOf t = 1) : OpensL P t layU8 1 (fun _ => True) := by
  refine ⟨hc, fun enc W held fuel cs x h k => ?_⟩
  obtain ⟨n, rfl, _, hw⟩ := DataW.trod_int ht h
  have hw : 0 ≤ n ∧ n ≤ 255 := by simpa [Lit.wf, IntKind.min, IntKind.max, IntKind.signed, IntKind.bits] using hw
  have e : n = (((UInt8.ofNat n.toNat).toNat : Nat) : Int) := by rw [UInt8.toNat_ofNat']; omega
  exact given_plain (UInt8.ofNat n.toNat) rfl (fun _ => by show _ = _; rw [← e]) trivial
theorem OpensL.u64 (ht : P.underlying t = some (.int .u64)) (hc : P.cellsOf t = 1) : OpensL P t layU64 1 (fun _ => True) := by
  refine ⟨hc, fun enc W held fuel cs x h k => ?_⟩
  obtain ⟨n, rfl, _, hw⟩ := DataW.trod_int ht h
  have hw : 0 ≤ n ∧ n ≤ 18446744073709551615 := by simpa [Lit.wf, IntKind.min, IntKind.max, IntKind.signed, IntKind.bits] using hw
  have e : n = (((UInt64.ofNat n.toNat).toNat : Nat) : Int) := by rw [UInt64.toNat_ofNat']; omega
  exact given_plain (UInt64.ofNat n.toNat) rfl (fun _ => by show _ = _; rw [← e]) trivial
theorem OpensL.i64 (ht : P.underlying t = some (.int .i64)) (hc : P.cellsOf t = 1) : OpensL P t layI64 1 (fun _ => True) := by
  refine ⟨hc, fun enc W held fuel cs x h k => ?_⟩
  obtain ⟨n, rfl, _, hw⟩ := DataW.trod_int ht h
  have hw : -9223372036854775808 ≤ n ∧ n ≤ 9223372036854775807 := by simpa [Lit.wf, IntKind.min, IntKind.max, IntKind.signed, IntKind.bits] using hw
  have e : (Int64.ofInt n).toInt = n := Int64.toInt_ofInt_of_le (by omega) (by omega)
  exact given_plain (Int64.ofInt n) rfl (fun _ => by show _ = _; rw [e]) trivial
theorem OpensL.string (ht : P.underlying t = some .string) (hc : P.cellsOf t = 1) : OpensL P t layStr 1 (fun a => a.length < 9223372036854775808) := by
  refine ⟨hc, fun enc W held fuel cs x h k => ?_⟩
  obtain ⟨s, rfl, _, hs⟩ := DataW.trod_string ht h
  obtain ⟨l, rfl⟩ := bs_of s
  rw [bs_size] at hs
  exact given_plain l rfl (fun _ => rfl) (Nat.lt_succ_of_le hs)
inductive SlL {α : Type} (L : Lay α) (n : Nat) (h : H) : Value → List α → Prop
  | nil : SlL L n h (.slice none 0 0) []
  | emp (a : Addr) (c : Nat) : SlL L n h (.slice (some a) 0 c) []
  | row (b c : Nat) (l : List α) (cells : List Value) (hg : h.get b = some ⟨cells, n, true⟩) (hl : cells.length = l.length * n) (he : ∀ (j : Nat) (y : α), l[j]? = some y → L h y ((cells.drop (j * n)).take n)) : SlL L n h (.slice (some ⟨b, 0, none⟩) l.length c) l
def laySl {α : Type} (L : Lay α) (n : Nat) : Lay (List α) := fun h l cs => ∃ V, cs = [V] ∧ SlL L n h V l
theorem chunk_append {α : Type} {a b : List α} {n q j : Nat} (ha : a.length = q * n) (hj : j < q) : ((a ++ b).drop (j * n)).take n = (a.drop (j * n)).take n := by
  have : (j + 1) * n ≤ q * n := Nat.mul_le_mul_right n (by omega)
  rw [Nat.add_mul, Nat.one_mul] at this
  rw [List.drop_append_of_le_length (by omega), List.take_append_of_le_length (by rw [List.length_drop]; omega)]
theorem chunk_last {α : Type} {a b : List α} {n q : Nat} (ha : a.length = q * n) (hb : b.length = n) : ((a ++ b).drop (q * n)).take n = b := by
  rw [← ha, List.drop_left, List.take_of_length_le (by omega)]
theorem OpensL.slice {α : Type} {L : Lay α} {n : Nat} {ok : α → Prop} (ht : P.underlying t = some (.slice e)) (hct : P.cellsOf t = 1) (hn : 0 < n) (h : OpensL P e L n ok) : OpensL P t (laySl L n) 1 (fun l => l.length < 9223372036854775808 ∧ ∀ x ∈ l, ok x) := by
  obtain ⟨hc, h⟩ := h
  refine ⟨hct, fun {Hh} enc W held fuel cs x hx k => ?_⟩
  rcases Go.Deep.open_slice ht hx with ⟨rfl, _⟩ | ⟨a, len, cap, m, fu, D, Pl, rfl, hb, hl, hm, hmm, _, hel⟩
  · exact ⟨[], [], [.slice none 0 0], rfl, rfl, fun r _ => ⟨fun p hp => by simp at hp, VL.cons .sl0 (VL.nil r)⟩, fun h _ => ⟨_, rfl, .nil⟩, by simp, by simp⟩
  have hmc : m = cap := by simpa using hmm
  subst hmc
  have hmx : m ≤ 9223372036854775807 := hm
  by_cases hlen : len = 0
  · subst hlen
    by_cases hcap : m = 0
    · subst hcap
      exact ⟨[], [], [.slice (some ⟨0, 0, none⟩) 0 1], rfl, rfl, fun r _ => ⟨fun p hp => by simp at hp, VL.cons (.sl (.inr rfl) (Nat.le_refl _) (by omega) (fun _ => rfl) (fun q => by omega)) (VL.nil r)⟩, fun h _ => ⟨_, rfl, .emp _ _⟩, by simp, by simp⟩
    ·
      obtain ⟨cs0, g0, _⟩ := hel 0 (by omega)
      have g4 := (World.cells?_some g0).2.2 0 (by rw [hc]; exact hn)
      have hl0 := (World.cells?_some g0).2.1
      obtain ⟨v0, hv0⟩ : ∃ v, cs0[0]? = some v := ⟨_, List.getElem?_eq_getElem (by rw [hl0, hc]; exact hn)⟩
      rw [hv0] at g4
      obtain ⟨hs, _⟩ := cell_heap g4
      have hspot : a.spot = none := by
        have : (a.add (0 * P.cellsOf e)).add 0 = a := by rw [Nat.zero_mul]; rfl
        rw [this] at hs; exact hs
      refine ⟨[], [(none, some ⟨a.block, a.off, 0, n⟩)], [.slice (some ⟨k, 0, none⟩) 0 (2 * m + 1)], rfl, rfl, fun r hr => ⟨fun p hp B hB => (by simp at hp; subst hp; cases hB), VL.cons (.sl (.inl ⟨rfl, _, hr 0 _ rfl, ?_⟩) (by omega) (by omega) (fun _ => by omega) (fun q => by omega)) (VL.nil r)⟩, fun h _ => ⟨_, rfl, .emp _ _⟩, by simp, by simp⟩
      obtain ⟨ab, ao, asp⟩ := a
      simp only at hspot; subst hspot; rfl
  have hq : ∀ q, q ≤ len → ∃ (l : List α) (bl : BL) (acs : List Value), l.length = q ∧ acs.length = q * n ∧ acs.all (·.oneCell') = true ∧ (∀ r, CompR r (k + 1) bl → (∀ p ∈ bl, BlkOK W r p) ∧ ∀ j, j < q → ∃ cs', W.cells? 0 (a.add (j * n)) n = some cs' ∧ VL r ((acs.drop (j * n)).take n) cs') ∧
      (∀ h, CompH h (k + 1) bl → ∀ (j : Nat) (y : α), l[j]? = some y → L h y ((acs.drop (j * n)).take n)) ∧ ∀ x ∈ l, ok x := by
    intro q
    induction q with
    | zero => intro _; exact ⟨[], [], [], rfl, by simp, rfl, fun r _ => ⟨fun p hp => by simp at hp, fun j hj => by omega⟩, fun h _ j y hj => by simp at hj, by simp⟩
    | succ q ih =>
      intro hq2
      obtain ⟨l, bl, acs, l1, l2, l3, l4, l5, l6⟩ := ih (by omega)
      obtain ⟨cs', g1, g2⟩ := hel q (by omega)
      rw [hc] at g1
      obtain ⟨y, bl2, acs2, m1, m2, m3, m4, m5⟩ := h enc W held fu cs' _ g2 (k + 1 + bl.length)
      refine ⟨l ++ [y], bl ++ bl2, acs ++ acs2, by simp [l1], by rw [List.length_append, l2, m1, Nat.add_mul, Nat.one_mul], by rw [List.all_append, l3, m2]; rfl, fun r hr => ⟨fun p hp => ?_, fun j hj => ?_⟩, fun h hh j z hj => ?_, fun z hz => ?_⟩
      · rcases List.mem_append.1 hp with hp | hp
        · exact (l4 r hr.left).1 p hp
        · exact (m3 r hr.right).1 p hp
      · by_cases hjq : j < q
        · rw [chunk_append l2 hjq]; exact (l4 r hr.left).2 j hjq
        · have : j = q := by omega
          subst this
          rw [chunk_last l2 m1]; exact ⟨cs', g1, (m3 r hr.right).2⟩
      · have hj2 := (List.getElem?_eq_some_iff.1 hj).1
        rw [List.length_append, l1] at hj2; simp at hj2
        by_cases hjq : j < q
        · rw [List.getElem?_append_left (by omega)] at hj
          rw [chunk_append l2 hjq]; exact l5 h hh.left j z hj
        · have : j = q := by omega
          subst this
          rw [List.getElem?_append_right (by omega), l1, Nat.sub_self] at hj
          simp at hj; subst hj
          rw [chunk_last l2 m1]; exact m4 h hh.right
      · rcases List.mem_append.1 hz with hz | hz
        · exact l6 z hz
        · rw [List.mem_singleton.1 hz]; exact m5
  obtain ⟨l, bl, acs, l1, l2, l3, l4, l5, l6⟩ := hq len (Nat.le_refl _)
  obtain ⟨cs0, g0, _⟩ := hel 0 (by omega)
  have g4 := (World.cells?_some g0).2.2 0 (by rw [hc]; exact hn)
  have hl0 := (World.cells?_some g0).2.1
  obtain ⟨v0, hv0⟩ : ∃ v, cs0[0]? = some v := ⟨_, List.getElem?_eq_getElem (by rw [hl0, hc]; exact hn)⟩
  rw [hv0] at g4
  obtain ⟨hs, c, el, fz, hh, hcell⟩ := cell_heap g4
  rw [(add_block _ _).1, (add_block _ _).1] at hh
  have hspot : a.spot = none := by
    have : (a.add (0 * P.cellsOf e)).add 0 = a := by rw [Nat.zero_mul]; rfl
    rw [this] at hs; exact hs
  have all : ∀ (j : Nat) (cs' : List Value), W.cells? 0 (a.add (j * n)) n = some cs' → ∀ (i : Nat) (v : Value), cs'[i]? = some v → c[a.off + (j * n + i)]? = some v := fun j cs' hy i v hv => by
    obtain ⟨_, q2, q3⟩ := World.cells?_some hy
    have hi : i < n := by have := (List.getElem?_eq_some_iff.1 hv).1; omega
    have q4 := q3 i hi
    rw [hv] at q4
    obtain ⟨_, c2, el2, fz2, hh2, hcell2⟩ := cell_heap q4
    rw [(add_block _ _).1, (add_block _ _).1, hh] at hh2
    cases hh2
    rw [(add_block _ _).2, (add_block _ _).2] at hcell2
    rw [← hcell2]; congr 1; omega
  have hsz : a.off + len * n ≤ c.size := by
    obtain ⟨csl, e1, _⟩ := hel (len - 1) (by omega)
    rw [hc] at e1
    have q2 := (World.cells?_some e1).2.1
    have hv := all (len - 1) csl e1 (n - 1) _ (List.getElem?_eq_getElem (by omega))
    have := (Array.getElem?_eq_some_iff.1 hv).1
    have e2 : (len - 1) * n + n = len * n := by
      obtain ⟨q, rfl⟩ : ∃ q, len = q + 1 := ⟨len - 1, by omega⟩
      simp only [Nat.add_sub_cancel, Nat.add_mul, Nat.one_mul]
    omega
  refine ⟨l, (some ⟨acs, n, true⟩, some ⟨a.block, a.off, len * n, n⟩) :: bl, [.slice (some ⟨k, 0, none⟩) len (2 * m + 1)], rfl, rfl, fun r hr => ?_, fun h hH => ?_, by omega, l6⟩
  · have hr0 : r k = some ⟨a.block, a.off, len * n, n⟩ := hr 0 _ rfl
    have hr1 : CompR r (k + 1) bl := fun i p hp => by rw [Nat.add_assoc, Nat.add_comm 1 i]; exact hr (i + 1) p hp
    obtain ⟨r1, r2⟩ := l4 r hr1
    refine ⟨fun p hp => ?_, VL.cons (.sl (.inl ⟨rfl, _, hr0, ?_⟩) hl (by omega) (fun _ => by omega) (fun q => by omega)) (VL.nil r)⟩
    · rcases List.mem_cons.1 hp with rfl | hp
      · intro B hB
        cases hB
        refine ⟨_, c, el, fz, rfl, hh, rfl, by show acs.length ≤ len * n; omega, hsz, rfl, fun i v hv => ⟨List.all_eq_true.1 l3 v (List.mem_of_getElem? hv), ?_⟩⟩
        have hi := (List.getElem?_eq_some_iff.1 hv).1
        have hv : acs[i]? = some v := hv
        have hi : i < acs.length := hi
        have hj : i / n < len := Nat.div_lt_of_lt_mul (by rw [Nat.mul_comm]; omega)
        have he : i = i / n * n + i % n := by rw [Nat.mul_comm]; exact (Nat.div_add_mod i n).symm
        obtain ⟨cs', s1, s2⟩ := r2 (i / n) hj
        have hk : ((acs.drop (i / n * n)).take n)[i % n]? = some v := by
          rw [List.getElem?_take, if_pos (Nat.mod_lt _ hn), List.getElem?_drop, ← he]; exact hv
        obtain ⟨v', t1, t2⟩ := s2.get hk
        refine ⟨v', ?_, t2⟩
        have := all (i / n) cs' s1 (i % n) v' t1
        rw [← he] at this; exact this
      · exact r1 p hp
    · obtain ⟨ab, ao, asp⟩ := a
      simp only at hspot; subst hspot; rfl
  · have h0 : h.get k = some ⟨acs, n, true⟩ := hH 0 _ rfl _ rfl
    have h1 : CompH h (k + 1) bl := fun i p hp B hB => by rw [Nat.add_assoc, Nat.add_comm 1 i]; exact hH (i + 1) p hp B hB
    refine ⟨_, rfl, ?_⟩
    have := SlL.row (L := L) (n := n) (h := h) k (2 * m + 1) l acs h0 (by rw [l2, l1]) (l5 h h1)
    rw [l1] at this; exact this
def OpensLF (P : Program) (fs : List (TypeId × Nat)) (o : Nat) {α : Type} (L : Lay α) (n : Nat) (ok : α → Prop) : Prop :=
  ∀ {Hh : Type} (enc : TypeId × Value → Hh) (W : World) (held : Bool) (fuel : Nat) (cs : List Value), cs.length = n →
    (∀ f ∈ fs, ∃ x, DataW.trod enc P W 0 (fun _ => true) held fuel f.1 ((cs.drop (f.2 - o)).take (P.cellsOf f.1)) = some x) → ∀ k, Given W k n L ok cs
theorem OpensLF.one {α : Type} {L : Lay α} {n : Nat} {ok : α → Prop} {o : Nat} (h : OpensL P t L n ok) : OpensLF P [(t, o)] o L n ok := by
  intro Hh enc W held fuel cs hl hf
  obtain ⟨x, hx⟩ := hf (t, o) (by simp)
  simp only [Nat.sub_self, List.drop_zero] at hx
  rw [List.take_of_length_le (by rw [h.1]; omega)] at hx
  exact h.2 enc W held fuel cs x hx
def layP {α β : Type} (L : Lay α) (M : Lay β) : Lay (α × β) := fun h x cs => ∃ c1 c2, cs = c1 ++ c2 ∧ L h x.1 c1 ∧ M h x.2 c2
theorem OpensLF.cons {α β : Type} {L : Lay α} {M : Lay β} {n m : Nat} {ok : α → Prop} {ok' : β → Prop} {o o' : Nat} {fs : List (TypeId × Nat)} (ho : o' = o + n) (hfs : ∀ f ∈ fs, o' ≤ f.2) (h : OpensL P t L n ok) (hr : OpensLF P fs o' M m ok') :
    OpensLF P ((t, o) :: fs) o (layP L M) (n + m) (fun x => ok x.1 ∧ ok' x.2) := by
  intro Hh enc W held fuel cs hl hf k
  obtain ⟨x, hx⟩ := hf (t, o) (by simp)
  simp only [Nat.sub_self, List.drop_zero] at hx
  rw [h.1] at hx
  obtain ⟨a, bl, acs, a1, a2, a3, a4, a5⟩ := h.2 enc W held fuel _ x hx k
  obtain ⟨b, bl2, acs2, b1, b2, b3, b4, b5⟩ := hr enc W held fuel (cs.drop n) (by rw [List.length_drop]; omega) (fun f hm => by
    obtain ⟨y, hy⟩ := hf f (by simp [hm])
    have := hfs f hm
    refine ⟨y, ?_⟩
    rw [List.drop_drop, show n + (f.2 - o') = f.2 - o from by omega]
    exact hy) (k + bl.length)
  refine ⟨(a, b), bl ++ bl2, acs ++ acs2, by rw [List.length_append, a1, b1], by rw [List.all_append, a2, b2]; rfl, fun r hr2 => ⟨fun p hp => ?_, ?_⟩, fun h hh => ⟨acs, acs2, rfl, a4 h hh.left, b4 h hh.right⟩, a5, b5⟩
  · rcases List.mem_append.1 hp with hp | hp
    · exact (a3 r hr2.left).1 p hp
    · exact (b3 r hr2.right).1 p hp
  · have := (a3 r hr2.left).2.append (b3 r hr2.right).2
    rwa [List.take_append_drop] at this
def fieldsOf (P : Program) (t : TypeId) : Option (List (TypeId × Nat)) :=
  match P.underlying t with
  | some (.struct fs) => some (fs.toList.map fun f => (f.type, f.offset))
  | _ => none
theorem OpensL.struct {α β : Type} {L : Lay β} {M : Lay α} {n : Nat} {ok : β → Prop} {ok' : α → Prop} {fs : List (TypeId × Nat)} (mk : β → α) (hM : ∀ h b cs, L h b cs → M h (mk b) cs) (hok : ∀ b, ok b → ok' (mk b)) (hfs : fieldsOf P t = some fs) (hc : P.cellsOf t = n) (h : OpensLF P fs 0 L n ok) : OpensL P t M n ok' := by
  refine ⟨hc, fun {Hh} enc W held fuel cs x hx k => ?_⟩
  unfold fieldsOf at hfs
  cases hu : P.underlying t with
  | none => rw [hu] at hfs; cases hfs
  | some u =>
    rw [hu] at hfs
    cases u with
    | struct fa =>
      simp only [Option.some.injEq] at hfs
      obtain ⟨xs, m, _, _, hl, hlen, hget⟩ := DataW.trod_struct hu hx
      obtain ⟨a, bl, acs, a1, a2, a3, a4, a5⟩ := h enc W held m cs (by rw [hl, hc]) (fun g hg => by
        rw [← hfs] at hg
        obtain ⟨fl, hfl, rfl⟩ := List.mem_map.1 hg
        obtain ⟨i, hi, hgi⟩ := List.mem_iff_getElem.1 hfl
        have hia : i < fa.size := by simpa using hi
        have h1 : fa[i]? = some fl := by
          rw [Array.getElem?_eq_getElem hia]
          simpa using hgi
        have h2 := hget i fl h1
        have hix : i < xs.length := by omega
        rw [List.getElem?_eq_getElem hix] at h2
        exact ⟨xs[i], by simpa using h2⟩) k
      exact ⟨mk a, bl, acs, a1, a2, a3, fun h hh => hM h a acs (a4 h hh), hok a a5⟩
    | _ => cases hfs
theorem OpensL.array {α β : Type} {L : Lay β} {M : Lay α} {n q : Nat} {ok : β → Prop} {ok' : α → Prop} {fs : List (TypeId × Nat)} (mk : β → α) (hM : ∀ h b cs, L h b cs → M h (mk b) cs) (hok : ∀ b, ok b → ok' (mk b)) (ht : P.underlying t = some (.array q e)) (hfs : (List.range q).map (fun i => (e, i * P.cellsOf e)) = fs) (hc : P.cellsOf t = n) (h : OpensLF P fs 0 L n ok) : OpensL P t M n ok' := by
  refine ⟨hc, fun {Hh} enc W held fuel cs x hx k => ?_⟩
  obtain ⟨xs, m, _, _, hl, hlen, hget⟩ := DataW.trod_array ht hx
  obtain ⟨a, bl, acs, a1, a2, a3, a4, a5⟩ := h enc W held m cs (by rw [hl, hc]) (fun g hg => by
    rw [← hfs] at hg
    obtain ⟨i, hi, rfl⟩ := List.mem_map.1 hg
    have hi' : i < q := by simpa using hi
    have h2 := hget i hi'
    rw [List.getElem?_eq_getElem (show i < xs.length by omega)] at h2
    exact ⟨_, by simpa using h2⟩) k
  exact ⟨mk a, bl, acs, a1, a2, a3, fun h hh => hM h a acs (a4 h hh), hok a a5⟩
end
theorem SlL.sl {α : Type} {K : Row α} {h : H} {V : Value} {l : List α} (A : SlL (fun _ y cs => cs = K.cells y) K.n h V l) : K.Sl h V l := by
  cases A with
  | nil => exact .nil
  | emp a c => exact .emp a c
  | row b c l cells hg hl he =>
    have e : cells = K.flat l := by
      apply List.ext_getElem?
      intro i
      by_cases hi : i < cells.length
      · have hj : i / K.n < l.length := Nat.div_lt_of_lt_mul (by rw [Nat.mul_comm]; omega)
        have hi2 : i = i / K.n * K.n + i % K.n := by rw [Nat.mul_comm]; exact (Nat.div_add_mod i K.n).symm
        have h1 := he (i / K.n) _ (List.getElem?_eq_getElem hj)
        have h2 := K.flat_get l (i / K.n) _ (List.getElem?_eq_getElem hj)
        have h3 := congrArg (fun z : List Value => z[i % K.n]?) (h1.trans h2.symm)
        simp only [List.getElem?_take, if_pos (Nat.mod_lt i K.pos), List.getElem?_drop] at h3
        rw [← hi2] at h3; exact h3
      · rw [List.getElem?_eq_none (by omega), List.getElem?_eq_none (by rw [K.flat_length]; omega)]
    subst e
    exact .own hg
theorem rel_bl {W : World} {bl : BL} (hb : ∀ p ∈ bl, BlkOK W (rhoL (bl.map Prod.snd)) p) : Rel W.heap.size (rhoL (bl.map Prod.snd)) (args (bl.map Prod.fst)) W := by
  have pick : ∀ k B, (args (bl.map Prod.fst)).get k = some B → ∃ p, bl[k]? = some p ∧ p.1 = some B := fun k B e => by
    rw [args_get, List.getElem?_map] at e
    cases ho : bl[k]? with
    | none => rw [ho] at e; cases e
    | some p => rw [ho] at e; exact ⟨p, rfl, by simpa using e⟩
  have loc : ∀ k p, bl[k]? = some p → rhoL (bl.map Prod.snd) k = p.2 := fun k p e => by simp [rhoL, List.getElem?_map, e]
  refine ⟨fun k B e => ?_, fun n m Bn Bm L M e1 e2 hne hro => ?_, fun n hn => ?_, Nat.le_refl _, fun n B L e hro hL => ?_⟩
  · obtain ⟨p, h1, h2⟩ := pick k B e
    obtain ⟨L, c, el, fz, g1, g2, g3, g4, g5, g6, g7⟩ := hb p (List.mem_of_getElem? h1) B h2
    exact ⟨L, c, el, fz, by rw [loc k p h1, g1], g2, g3, g4, g5, fun q => by (rw [g6] at q; cases q), g7⟩
  · obtain ⟨p, h1, h2⟩ := pick n Bn e1
    obtain ⟨_, _, _, _, _, _, _, _, _, g6, _⟩ := hb p (List.mem_of_getElem? h1) Bn h2
    rw [g6] at hro; cases hro
  · rw [args_next, List.length_map] at hn
    simp [rhoL, List.getElem?_eq_none (show bl.length ≤ n by omega)]
  · obtain ⟨p, h1, h2⟩ := pick n B e
    obtain ⟨L', c, el, fz, g1, g2, _⟩ := hb p (List.mem_of_getElem? h1) B h2
    rw [loc n p h1, g1] at hL; cases hL
    exact (Array.getElem?_eq_some_iff.1 g2).1
theorem compR_rho (bl : BL) : CompR (rhoL (bl.map Prod.snd)) 0 bl := fun i p hp => by simp [rhoL, List.getElem?_map, hp]
theorem compH_args (bl : BL) : CompH (args (bl.map Prod.fst)) 0 bl := fun i p hp B hB => by
  rw [args_get, List.getElem?_map, Nat.zero_add, hp]; simp [hB]
theorem wf_args (bl : BL) : Mem (args (bl.map Prod.fst)) (args (bl.map Prod.fst)) [] [] := Mem.start fun n B e => by
  rw [args_get] at e; rw [args_next]
  rcases Nat.lt_or_ge n (bl.map Prod.fst).length with q | q
  · exact q
  · rw [List.getElem?_eq_none q] at e; cases e
def GivenA (W : World) (k : Nat) (us us' : List Value) (bl : BL) : Prop := ∀ r, CompR r k bl → (∀ p ∈ bl, BlkOK W r p) ∧ VL r us us'
theorem GivenA.nil {W : World} {k : Nat} : GivenA W k [] [] [] := fun r _ => ⟨fun p hp => by simp at hp, VL.nil r⟩
theorem GivenA.cons {W : World} {k : Nat} {u u' : Value} {us us' : List Value} {bl bl2 : BL} (h1 : ∀ r, CompR r k bl → (∀ p ∈ bl, BlkOK W r p) ∧ VR r u u') (h2 : GivenA W (k + bl.length) us us' bl2) : GivenA W k (u :: us) (u' :: us') (bl ++ bl2) := fun r hr =>
  ⟨fun p hp => (List.mem_append.1 hp).elim ((h1 r hr.left).1 p) ((h2 r hr.right).1 p), VL.cons (h1 r hr.left).2 (h2 r hr.right).2⟩
theorem given_agg {W : World} {k : Nat} {bl : BL} {acs : List Value} {C : Array Value} (h : ∀ r, CompR r k bl → (∀ p ∈ bl, BlkOK W r p) ∧ VL r acs (Value.agg C).cells.toList) : ∀ r, CompR r k bl → (∀ p ∈ bl, BlkOK W r p) ∧ VR r (.agg acs.toArray) (.agg C) := fun r hr => by
  obtain ⟨h1, h2⟩ := h r hr
  have h2 : VL r acs C.toList := h2
  have := VR.ofAgg h2
  rw [Array.toArray_toList] at this
  exact ⟨h1, this⟩
theorem given_one {W : World} {k : Nat} {bl : BL} {u v : Value} (h : ∀ r, CompR r k bl → (∀ p ∈ bl, BlkOK W r p) ∧ VL r [u] [v]) : ∀ r, CompR r k bl → (∀ p ∈ bl, BlkOK W r p) ∧ VR r u v := fun r hr =>
  ⟨(h r hr).1, (h r hr).2.2 0 u v rfl rfl⟩
theorem one_of {l : List Value} (h : l.length = 1) : ∃ u, l = [u] := by
  match l, h with
  | [u], _ => exact ⟨u, rfl⟩
theorem law_calls {P : Program} {tab : Nat → Option FD} (hD : DrawOK P) (hT : TabOK P tab) {f : Nat} {W : World} {bl : BL} {us us' : List Value} (hb : ∀ r, CompR r 0 bl → (∀ p ∈ bl, BlkOK W r p) ∧ VL r us us')
    (hw : Cll tab f us (args (bl.map Prod.fst)) (fun v _ => v = .bool true)) : Calls P f us'.toArray W fun e W' => e = .returned (.bool true) ∧ Go.RowKit.Below W.heap.size W W' := by
  obtain ⟨v, h2, ⟨n, hr⟩, rfl⟩ := hw
  obtain ⟨b1, b2⟩ := hb _ (compR_rho bl)
  have R := rel_bl b1
  refine (run_table hD hT n f W.heap.size _ _ W us us' _ _ hr b2 R).2.mono fun e W' he => ?_
  obtain ⟨r2, v', rfl, hv, _, F, _⟩ := he
  cases hv
  exact ⟨rfl, F.below R⟩
end Go.Proofs.Yteikngjiaboeaaa.Am
namespace Go.Proofs.Yteikngjiaboeaaa.Wt
open Go Go.Proofs.Yteikngjiaboeaaa.Am Go.Proofs.Yteikngjiaboeaaa.IrAll
set_option linter.unusedVariables false
set_option linter.unusedSimpArgs false
variable {h base : H} {L : List Seg} {R : List Nat}
theorem n64 {n : Nat} (h : n < 18446744073709551616) : (UInt64.ofNat n).toNat = n := by simp [UInt64.toNat_ofNat']; omega
theorem opens_5 : OpensL Try.prog 5 layU8 1 (fun _ => True) := OpensL.u8 Try.underlying5 (by kernel_rfl)
theorem opens_23 : OpensL Try.prog 23 (layP layU8 (layP layU8 (layP layU8 (layP layU8 (layP layU8 (layP layU8 (layP layU8 layU8))))))) 8 (fun _ => True) := OpensL.array (fs := [(5, 0), (5, 1), (5, 2), (5, 3), (5, 4), (5, 5), (5, 6), (5, 7)]) id (fun _ _ _ h => h) (fun _ _ => trivial) Try.underlying23 (by kernel_rfl) (by kernel_rfl) (OpensLF.cons (by decide) (by decide) opens_5 (OpensLF.cons (by decide) (by decide) opens_5 (OpensLF.cons (by decide) (by decide) opens_5 (OpensLF.cons (by decide) (by decide) opens_5 (OpensLF.cons (by decide) (by decide) opens_5 (OpensLF.cons (by decide) (by decide) opens_5 (OpensLF.cons (by decide) (by decide) opens_5 (OpensLF.one opens_5))))))))
theorem opens_3 : OpensL Try.prog 3 layI64 1 (fun _ => True) := OpensL.i64 Try.underlying3 (by kernel_rfl)
set_option maxRecDepth 100000 in
theorem opens_26 : OpensL Try.prog 26 (α := Oper) (fun _ o cs => cs = Oper.cells o) 16 (fun _ => True) := by
  refine OpensL.struct (fs := [(5, 0), (5, 1), (23, 2), (5, 10), (3, 11), (3, 12), (3, 13), (3, 14), (5, 15)]) (L := (layP layU8 (layP layU8 (layP (layP layU8 (layP layU8 (layP layU8 (layP layU8 (layP layU8 (layP layU8 (layP layU8 layU8))))))) (layP layU8 (layP layI64 (layP layI64 (layP layI64 (layP layI64 layU8))))))))) (mk := fun (op, sl, (t0, t1, t2, t3, t4, t5, t6, t7), ro, ks, bt, ra, bu, nd) => ⟨op, sl, t0, t1, t2, t3, t4, t5, t6, t7, ro, ks, bt, ra, bu, nd⟩) ?_ ?_ (by kernel_rfl) (by kernel_rfl) (OpensLF.cons (by decide) (by decide) opens_5 (OpensLF.cons (by decide) (by decide) opens_5 (OpensLF.cons (by decide) (by decide) opens_23 (OpensLF.cons (by decide) (by decide) opens_5 (OpensLF.cons (by decide) (by decide) opens_3 (OpensLF.cons (by decide) (by decide) opens_3 (OpensLF.cons (by decide) (by decide) opens_3 (OpensLF.cons (by decide) (by decide) opens_3 (OpensLF.one opens_5)))))))))
  · rintro h ⟨op, sl, ⟨t0, t1, t2, t3, t4, t5, t6, t7⟩, ro, ks, bt, ra, bu, nd⟩ cs ⟨_, _, rfl, rfl, ⟨_, _, rfl, rfl, ⟨_, _, rfl, ⟨_, _, rfl, rfl, ⟨_, _, rfl, rfl, ⟨_, _, rfl, rfl, ⟨_, _, rfl, rfl, ⟨_, _, rfl, rfl, ⟨_, _, rfl, rfl, ⟨_, _, rfl, rfl, rfl⟩⟩⟩⟩⟩⟩⟩, ⟨_, _, rfl, rfl, ⟨_, _, rfl, rfl, ⟨_, _, rfl, rfl, ⟨_, _, rfl, rfl, ⟨_, _, rfl, rfl, rfl⟩⟩⟩⟩⟩⟩⟩⟩
    rfl
  · rintro ⟨op, sl, ⟨t0, t1, t2, t3, t4, t5, t6, t7⟩, ro, ks, bt, ra, bu, nd⟩ ⟨k0, k1, k2, k3, k4, k5, k6, k7, k8⟩
    exact trivial
theorem opens_9 : OpensL Try.prog 9 layStr 1 (fun a => a.length < 9223372036854775808) := OpensL.string Try.underlying9 (by kernel_rfl)
theorem opens_27 : OpensL Try.prog 27 layU64 1 (fun _ => True) := OpensL.u64 Try.underlying27 (by kernel_rfl)
end Go.Proofs.Yteikngjiaboeaaa.Wt
namespace Go.Proofs.Yteikngjiaboeaaa.Wt
open Go Go.Proofs.Yteikngjiaboeaaa.Am Go.Proofs.Yteikngjiaboeaaa.IrAll
set_option linter.unusedVariables false
set_option linter.unusedSimpArgs false
variable {h base : H} {L : List Seg} {R : List Nat}
theorem splice_set {cells : List Value} {k : Nat} {v : Value} (h : k < cells.length) : splice cells k [v] = cells.set k v := by
  unfold splice; rw [List.set_eq_take_append_cons_drop, if_pos h]; simp
theorem set_same {α : Type} {l : List α} {i : Nat} {y : α} (hy : l[i]? = some y) : l.set i y = l := by
  apply List.ext_getElem?
  intro j
  rw [List.getElem?_set]
  split
  · rename_i e; subst e; rw [if_pos (List.getElem?_eq_some_iff.1 hy).1, hy]
  · rfl
theorem flat_at0 {α : Type} {K : Row α} {l : List α} {j k : Nat} {y : α} {v : Value} (hy : l[j]? = some y) (hk : (K.cells y)[k]? = some v) : (K.flat l)[0 + j * K.n + k]? = some v := by
  rw [Nat.zero_add]; exact K.flat_at hy hk
theorem flat_set0 {α : Type} {K : Row α} {l : List α} {j k : Nat} {y y' : α} {v : Value} (hy : l[j]? = some y) (hk : k < K.n) (hs : (K.cells y).set k v = K.cells y') : (K.flat l).set (0 + j * K.n + k) v = K.flat (l.set j y') := by
  have hj := (List.getElem?_eq_some_iff.1 hy).1
  have := Nat.mul_le_mul_right K.n (show j + 1 ≤ l.length by omega)
  rw [Nat.add_mul, Nat.one_mul] at this
  rw [Nat.zero_add, ← splice_set (by rw [K.flat_length]; omega)]; exact Row.flat_set hy hk hs
theorem r_skip_ran {r n : Nat} {s : List UInt8} {b ok : Bool} (M : Mem base h ([(r, ⟨[.string (bs s), .bool b], 0, false⟩)] :: L) []) (hl : s.length ≤ 1000000) : Cll tab0 106 [.pointer (some ⟨r, 0, none⟩), .int .i64 (n : Int), .bool ok] h (fun v h2 => ∃ s' b', v = .bool (!b') ∧ Mem base h2 ([(r, ⟨[.string (bs s'), .bool b'], 0, false⟩)] :: L) [] ∧ (b' = false → b = false ∧ ok = true ∧ n ≤ s.length ∧ s' = s.drop n) ∧ (b' = true → s' = s) ∧ (b = false → ok = true → n ≤ s.length → b' = false)) := by
  refine Cll.code rfl rfl ?_
  refine WC.env [(0, _), (1, _), (2, _)] rfl ?_
  refine WC.seq ?_
  refine WC.run ?_
  refine WS.op rfl rfl (WS.nil [(0, _), (1, _), (2, _)] rfl ?_)
  refine WC.seq ?_
  refine WC.seq ?_
  refine WC.run ?_
  refine WS.op rfl rfl (WS.op rfl rfl (WS.op rfl rfl (WS.op rfl rfl (WS.op rfl (op_ld (M.at 0 rfl) rfl rfl) (WS.op rfl rfl ?_)))))
  cases hb1 : b
  ·
   refine WS.op rfl rfl ?_
   cases hb2 : ok
   ·
    refine WS.opV (.bool true) rfl rfl rfl (WS.op rfl rfl (WS.op rfl rfl (WS.off rfl (WS.off rfl (WS.off rfl (WS.off rfl (WS.off rfl (WS.off rfl (WS.off rfl ?_)))))))))
    refine WS.op rfl rfl (WS.op rfl rfl (WS.op rfl rfl ?_))
    refine WS.st1 (M.focus 0 rfl) [_] [_, _] rfl rfl rfl rfl rfl (Nat.le_of_ble_eq_true rfl) (Nat.le_of_ble_eq_true rfl) rfl rfl ?_
    intro h1 M2
    replace M2 : Mem _ _ ([(r, _)] :: L) _ := M2
    refine WS.nil [(0, _), (1, _)] rfl ?_
    refine WC.seq ?_
    refine WC.run ?_
    refine WS.op rfl rfl (WS.op rfl rfl (WS.op rfl rfl (WS.op rfl (op_ld (M2.at 0 rfl) rfl rfl) (WS.nil [(0, _), (1, _), (30, _)] rfl ?_))))
    refine WC.condT rfl ?_
    refine WC.seq ?_
    refine WC.run ?_
    refine WS.op rfl rfl (WS.nil [(6, _)] rfl ?_)
    refine WC.ret ?_
    refine ⟨[_], (res_tmp rfl res_nil), ?_⟩
    exact ⟨_, true, rfl, M2, fun q => (nomatch q), fun _ => rfl, fun u1 u2 u3 => by first | (cases u1; done) | (cases u2; done) | (rw [hb1] at u1; cases u1; done) | (rw [hb1] at u2; cases u2; done) | (rw [hb2] at u2; cases u2; done) | (exfalso; omega)⟩
   ·
    refine WS.opV (.bool false) rfl rfl rfl (WS.op rfl rfl (WS.op rfl rfl (WS.op rfl rfl (WS.op rfl rfl (WS.op rfl rfl (WS.op rfl rfl (WS.op rfl (op_ld (M.at 0 rfl) rfl rfl) (WS.op rfl (op_lenS (l := s) rfl) ?_))))))))
    refine WS.gtrN (a := n) (b := (s).length) rfl rfl rfl (fun e23 => ?_) (fun e23 => ?_)
    ·
     refine WS.op rfl rfl (WS.op rfl rfl (WS.op rfl rfl ?_))
     refine WS.st1 (M.focus 0 rfl) [_] [_, _] rfl rfl rfl rfl rfl (Nat.le_of_ble_eq_true rfl) (Nat.le_of_ble_eq_true rfl) rfl rfl ?_
     intro h3 M4
     replace M4 : Mem _ _ ([(r, _)] :: L) _ := M4
     refine WS.nil [(0, _), (1, _)] rfl ?_
     refine WC.seq ?_
     refine WC.run ?_
     refine WS.op rfl rfl (WS.op rfl rfl (WS.op rfl rfl (WS.op rfl (op_ld (M4.at 0 rfl) rfl rfl) (WS.nil [(0, _), (1, _), (30, _)] rfl ?_))))
     refine WC.condT rfl ?_
     refine WC.seq ?_
     refine WC.run ?_
     refine WS.op rfl rfl (WS.nil [(6, _)] rfl ?_)
     refine WC.ret ?_
     refine ⟨[_], (res_tmp rfl res_nil), ?_⟩
     exact ⟨_, true, rfl, M4, fun q => (nomatch q), fun _ => rfl, fun u1 u2 u3 => by first | (cases u1; done) | (cases u2; done) | (rw [hb1] at u1; cases u1; done) | (rw [hb1] at u2; cases u2; done) | (rw [hb2] at u2; cases u2; done) | (exfalso; omega)⟩
    ·
     refine WS.op rfl rfl (WS.op rfl rfl (WS.op rfl rfl ?_))
     refine WS.st1 (M.focus 0 rfl) [_] [_, _] rfl rfl rfl rfl rfl (Nat.le_of_ble_eq_true rfl) (Nat.le_of_ble_eq_true rfl) rfl rfl ?_
     intro h5 M6
     replace M6 : Mem _ _ ([(r, _)] :: L) _ := M6
     refine WS.nil [(0, _), (1, _)] rfl ?_
     refine WC.seq ?_
     refine WC.run ?_
     refine WS.op rfl rfl (WS.op rfl rfl (WS.op rfl rfl (WS.op rfl (op_ld (M6.at 0 rfl) rfl rfl) (WS.nil [(0, _), (1, _), (30, _)] rfl ?_))))
     refine WC.condF rfl ?_
     refine WC.skip ?_
     refine WC.seq ?_
     refine WC.run ?_
     refine WS.op rfl rfl (WS.op rfl rfl (WS.op rfl rfl (WS.op rfl rfl (WS.op rfl (op_ld (M6.at 0 rfl) rfl rfl) (WS.op rfl rfl (WS.op rfl (op_slS0 (l := s) n rfl rfl (by first | omega | (simp only [List.length_drop, List.length_take, List.length_append, List.length_cons, List.length_nil, List.length_singleton]; omega) | (simp only [List.length_drop, List.length_take, List.length_append, List.length_cons, List.length_nil, List.length_singleton] at *; omega))) (WS.op rfl rfl (WS.op rfl rfl ?_))))))))
     refine WS.st1 (M6.focus 0 rfl) [_] [_, _] rfl rfl rfl rfl rfl (Nat.le_of_ble_eq_true rfl) (Nat.le_of_ble_eq_true rfl) rfl rfl ?_
     intro h7 M8
     replace M8 : Mem _ _ ([(r, _)] :: L) _ := M8
     refine WS.nil [] rfl ?_
     refine WC.seq ?_
     refine WC.run ?_
     refine WS.op rfl rfl (WS.nil [(6, _)] rfl ?_)
     refine WC.ret ?_
     refine ⟨[_], (res_tmp rfl res_nil), ?_⟩
     exact ⟨_, false, rfl, M8, fun _ => ⟨by first | assumption | rfl, by first | assumption | rfl, by omega, rfl⟩, fun q => (nomatch q), fun _ _ _ => rfl⟩
  ·
   refine WS.off rfl (WS.off rfl (WS.op rfl rfl (WS.op rfl rfl (WS.off rfl (WS.off rfl (WS.off rfl (WS.off rfl (WS.off rfl (WS.off rfl ?_)))))))))
   refine WS.off rfl (WS.op rfl rfl (WS.op rfl rfl (WS.op rfl rfl ?_)))
   refine WS.st1 (M.focus 0 rfl) [_] [_, _] rfl rfl rfl rfl rfl (Nat.le_of_ble_eq_true rfl) (Nat.le_of_ble_eq_true rfl) rfl rfl ?_
   intro h9 M10
   replace M10 : Mem _ _ ([(r, _)] :: L) _ := M10
   refine WS.nil [(0, _), (1, _)] rfl ?_
   refine WC.seq ?_
   refine WC.run ?_
   refine WS.op rfl rfl (WS.op rfl rfl (WS.op rfl rfl (WS.op rfl (op_ld (M10.at 0 rfl) rfl rfl) (WS.nil [(0, _), (1, _), (30, _)] rfl ?_))))
   refine WC.condT rfl ?_
   refine WC.seq ?_
   refine WC.run ?_
   refine WS.op rfl rfl (WS.nil [(6, _)] rfl ?_)
   refine WC.ret ?_
   refine ⟨[_], (res_tmp rfl res_nil), ?_⟩
   exact ⟨_, true, rfl, M10, fun q => (nomatch q), fun _ => rfl, fun u1 u2 u3 => by first | (cases u1; done) | (cases u2; done) | (rw [hb1] at u1; cases u1; done) | (rw [hb1] at u2; cases u2; done) | (rw [hb2] at u2; cases u2; done) | (exfalso; omega)⟩
theorem r_byte_ran {r q k es : Nat} {s : List UInt8} {b : Bool} {cells : List Value} {old : UInt8} (M : Mem base h ([(r, ⟨[.string (bs s), .bool b], 0, false⟩)] :: [(q, ⟨cells, es, false⟩)] :: L) []) (hk : cells[k]? = some (.int .u8 ((old.toNat : Nat) : Int))) (hl : s.length ≤ 1000000) :
    Cll tab0 102 [.pointer (some ⟨r, 0, none⟩), .pointer (some ⟨q, k, none⟩)] h (fun v h2 => ∃ s' b' c, v = .tuple #[] ∧ Mem base h2 ([(r, ⟨[.string (bs s'), .bool b'], 0, false⟩)] :: [(q, ⟨cells.set k (.int .u8 ((UInt8.toNat c : Nat) : Int)), es, false⟩)] :: L) [] ∧ s'.length ≤ s.length ∧ (b' = false → b = false ∧ s = c :: s') ∧ (∀ c0 t, b = false → s = c0 :: t → b' = false ∧ c = c0 ∧ s' = t)) := by
  have hkl := (List.getElem?_eq_some_iff.1 hk).1
  refine Cll.code rfl rfl ?_
  refine WC.env [(0, _), (1, _)] rfl ?_
  refine WC.seq ?_
  refine WC.run ?_
  refine WS.op rfl rfl (WS.op rfl rfl (WS.op rfl rfl (WS.op rfl (op_ld (M.at 0 rfl) rfl rfl) (WS.op rfl rfl (WS.nil [(0, _), (1, _), (4, _)] rfl ?_)))))
  refine WC.seq ?_
  refine WC.run ?_
  refine WS.op rfl rfl ?_
  refine WS.call rfl rfl rfl (r_skip_ran (s := s) (b := b) (n := 1) (ok := true) (M.focus 0 rfl) (by omega)) ?_
  rintro _ h1 ⟨s', b', rfl, M2, q1, q2, q3⟩
  replace M2 : Mem _ _ ([(r, _)] :: [(q, _)] :: L) _ := M2
  refine WS.nil [(1, _), (4, _), (10, _)] rfl ?_
  cases hb1 : (!b')
  ·
   refine WC.condF rfl ?_
   refine WC.skip ?_
   refine ⟨[], res_nil, ?_⟩
   have g0 : b' = true := by simpa using hb1
   exact ⟨_, _, old, rfl, by rw [set_same hk]; exact M2, by rw [q2 g0]; exact Nat.le_refl _, fun q => by rw [g0] at q; exact absurd q (by decide), fun c0 t u e => by have := q3 u rfl (by subst e; simp); rw [g0] at this; exact absurd this (by decide)⟩
  ·
   refine WC.condT rfl ?_
   refine WC.run ?_
   refine WS.op rfl rfl (WS.op rfl rfl ?_)
   obtain ⟨g1, g2, g3, g4⟩ := q1 (by simpa using hb1)
   obtain ⟨c, hc⟩ : ∃ c, (s)[0]? = some c := ⟨_, List.getElem?_eq_getElem (show 0 < (s).length by first | omega | (simp only [List.length_drop, List.length_take, List.length_append, List.length_cons, List.length_nil, List.length_singleton]; omega) | (simp only [List.length_drop, List.length_take, List.length_append, List.length_cons, List.length_nil, List.length_singleton] at *; omega))⟩
   refine WS.op rfl (op_ixS 0 rfl rfl hc) (WS.op rfl rfl ?_)
   refine WS.st1 (M2.focus 1 rfl) [(.int .u8 (((c).toNat : Nat) : Int))] (cells.set k (.int .u8 (((c).toNat : Nat) : Int))) rfl rfl rfl rfl rfl (Nat.le_of_ble_eq_true rfl) (by exact hkl) rfl (splice_set hkl) ?_
   intro h3 M4
   replace M4 : Mem _ _ ([(q, _)] :: [(r, _)] :: L) _ := M4
   refine WS.nil [] rfl ?_
   refine ⟨[], res_nil, ?_⟩
   exact ⟨_, _, c, rfl, ((M4.focus 0 rfl).focus 1 rfl), by rw [g4, List.length_drop]; omega, fun q => ⟨g1, by rw [g4]; simpa using drop_cons hc⟩, fun c0 t _ e => ⟨by simpa using hb1, by subst e; simpa using hc.symm, by subst e; rw [g4]; rfl⟩⟩
theorem r_number_ran {r q k es : Nat} {s : List UInt8} {b : Bool} {cells : List Value} {old : UInt64} (M : Mem base h ([(r, ⟨[.string (bs s), .bool b], 0, false⟩)] :: [(q, ⟨cells, es, false⟩)] :: L) []) (hk : cells[k]? = some (.int .u64 ((old.toNat : Nat) : Int))) (hl : s.length ≤ 1000000) :
    Cll tab0 103 [.pointer (some ⟨r, 0, none⟩), .pointer (some ⟨q, k, none⟩)] h (fun v h2 => ∃ s' b' c, v = .tuple #[] ∧ Mem base h2 ([(r, ⟨[.string (bs s'), .bool b'], 0, false⟩)] :: [(q, ⟨cells.set k (.int .u64 ((UInt64.toNat c : Nat) : Int)), es, false⟩)] :: L) [] ∧ s'.length ≤ s.length ∧ (b' = false → b = false ∧ s = vb c.toNat ++ s') ∧ (∀ (m : Nat) t, m < 18446744073709551616 → b = false → s = vb m ++ t → b' = false ∧ c.toNat = m ∧ s' = t)) := by
  have hkl := (List.getElem?_eq_some_iff.1 hk).1
  refine Cll.code rfl rfl ?_
  refine WC.env [(0, _), (1, _)] rfl ?_
  refine WC.seq ?_
  refine WC.run ?_
  refine WS.op rfl rfl (WS.op rfl rfl (WS.op rfl rfl (WS.op rfl (op_ld (M.at 0 rfl) rfl rfl) ?_)))
  refine WS.call rfl rfl rfl (num_ReadV_ran M.here (l := s) (by first | omega | (simp only [List.length_drop, List.length_take, List.length_append, List.length_cons, List.length_nil, List.length_singleton]; omega) | (simp only [List.length_drop, List.length_take, List.length_append, List.length_cons, List.length_nil, List.length_singleton] at *; omega))) ?_
  rintro _ h1 ⟨rfl, N2⟩
  have M3 := M.trans N2
  refine WS.op rfl rfl (WS.opV (.int .u64 (((UInt64.ofNat (rvN s)).toNat : Nat) : Int)) rfl rfl (u64_ofNat (n := (rvN s)) (by have := rvN_lt s; omega)) (WS.op rfl rfl (WS.op rfl rfl (WS.op rfl rfl (WS.op rfl rfl (WS.op rfl rfl (WS.nil [(0, _), (1, _), (4, _), (5, _), (6, _)] rfl ?_)))))))
  refine WC.seq ?_
  refine WC.run ?_
  refine WS.op rfl rfl (WS.op rfl rfl (WS.op rfl rfl ?_))
  refine WS.call rfl rfl rfl (r_skip_ran (s := s) (b := b) (n := (rvK s)) (ok := (rvOK s)) (M3.focus 0 rfl) (by omega)) ?_
  rintro _ h5 ⟨s', b', rfl, M6, q1, q2, q3⟩
  replace M6 : Mem _ _ ([(r, _)] :: [(q, _)] :: L) _ := M6
  refine WS.nil [(1, _), (4, _), (19, _)] rfl ?_
  cases hb1 : (!b')
  ·
   refine WC.condF rfl ?_
   refine WC.skip ?_
   refine ⟨[], res_nil, ?_⟩
   have g0 : b' = true := by first | simpa using hb1 | simpa using hb2
   exact ⟨_, _, old, rfl, by rw [set_same hk]; exact M6, by rw [q2 g0]; exact Nat.le_refl _, fun q => by rw [g0] at q; exact absurd q (by decide), fun m t hm u e => by obtain ⟨f1, f2, f3⟩ := rv_eq_some (show getV s = some (m, (vb m).length) by rw [e]; exact getV_vb hm t); have := q3 u f3 (rvK_le s).1; rw [g0] at this; exact absurd this (by decide)⟩
  ·
   refine WC.condT rfl ?_
   refine WC.run ?_
   refine WS.op rfl rfl (WS.op rfl rfl (WS.op rfl rfl ?_))
   refine WS.st1 (M6.focus 1 rfl) [(.int .u64 (((UInt64.ofNat (rvN s)).toNat : Nat) : Int))] (cells.set k (.int .u64 (((UInt64.ofNat (rvN s)).toNat : Nat) : Int))) rfl rfl rfl rfl rfl (Nat.le_of_ble_eq_true rfl) (by exact hkl) rfl (splice_set hkl) ?_
   intro h7 M8
   replace M8 : Mem _ _ ([(q, _)] :: [(r, _)] :: L) _ := M8
   refine WS.nil [] rfl ?_
   refine ⟨[], res_nil, ?_⟩
   have g0 : b' = false := by first | simpa using hb1 | simpa using hb2
   obtain ⟨g1, g2, g3, g4⟩ := q1 g0
   exact ⟨_, _, UInt64.ofNat (rvN s), rfl, ((M8.focus 0 rfl).focus 1 rfl), by rw [g4, List.length_drop]; omega, fun q => ⟨g1, by rw [n64 (rvN_lt s), g4]; exact (getV_some (show getV s = some (rvN s, rvK s) by rw [getV_eq, g2]; rfl)).1⟩, fun m t hm _ e => by obtain ⟨f1, f2, f3⟩ := rv_eq_some (show getV s = some (m, (vb m).length) by rw [e]; exact getV_vb hm t); exact ⟨g0, by rw [n64 (rvN_lt s), f1], by rw [g4, f2, e, List.drop_left]⟩⟩
theorem r_text_ran {r q k es : Nat} {s : List UInt8} {b : Bool} {cells : List Value} {old : List UInt8} (M : Mem base h ([(r, ⟨[.string (bs s), .bool b], 0, false⟩)] :: [(q, ⟨cells, es, false⟩)] :: L) []) (hk : cells[k]? = some (.string (bs old))) (hl : s.length ≤ 1000000) (ho : old = []) :
    Cll tab0 104 [.pointer (some ⟨r, 0, none⟩), .pointer (some ⟨q, k, none⟩)] h (fun v h2 => ∃ s' b' c, v = .tuple #[] ∧ Mem base h2 ([(r, ⟨[.string (bs s'), .bool b'], 0, false⟩)] :: [(q, ⟨cells.set k (.string (bs c)), es, false⟩)] :: L) [] ∧ s'.length ≤ s.length ∧ c.length ≤ s.length ∧ (b' = false → b = false ∧ s = sb c ++ s') ∧ (∀ u t, u.length < 18446744073709551616 → b = false → s = sb u ++ t → b' = false ∧ c = u ∧ s' = t)) := by
  have hkl := (List.getElem?_eq_some_iff.1 hk).1
  have hrs := rsT_le s
  refine Cll.code rfl rfl ?_
  refine WC.env [(0, _), (1, _)] rfl ?_
  refine WC.seq ?_
  refine WC.run ?_
  refine WS.op rfl rfl (WS.op rfl rfl (WS.op rfl rfl (WS.op rfl (op_ld (M.at 0 rfl) rfl rfl) ?_)))
  refine WS.call rfl rfl rfl (num_ReadS_ran M.here (l := s) (by first | omega | (simp only [List.length_drop, List.length_take, List.length_append, List.length_cons, List.length_nil, List.length_singleton]; omega) | (simp only [List.length_drop, List.length_take, List.length_append, List.length_cons, List.length_nil, List.length_singleton] at *; omega))) ?_
  rintro _ h1 ⟨rfl, N2⟩
  have M3 := M.trans N2
  refine WS.op rfl rfl (WS.op rfl rfl (WS.op rfl rfl (WS.op rfl rfl (WS.op rfl rfl (WS.op rfl rfl (WS.op rfl rfl (WS.nil [(0, _), (1, _), (4, _), (5, _), (6, _)] rfl ?_)))))))
  refine WC.seq ?_
  refine WC.run ?_
  refine WS.op rfl rfl (WS.op rfl rfl (WS.op rfl rfl ?_))
  refine WS.call rfl rfl rfl (r_skip_ran (s := s) (b := b) (n := (rsK s)) (ok := (rsOK s)) (M3.focus 0 rfl) (by omega)) ?_
  rintro _ h5 ⟨s', b', rfl, M6, q1, q2, q3⟩
  replace M6 : Mem _ _ ([(r, _)] :: [(q, _)] :: L) _ := M6
  refine WS.nil [(1, _), (4, _), (19, _)] rfl ?_
  cases hb1 : (!b')
  ·
   refine WC.condF rfl ?_
   refine WC.skip ?_
   refine ⟨[], res_nil, ?_⟩
   have g0 : b' = true := by first | simpa using hb1 | simpa using hb2
   exact ⟨_, _, old, rfl, by rw [set_same hk]; exact M6, by rw [q2 g0]; exact Nat.le_refl _, by subst ho; exact Nat.zero_le _, fun q => by rw [g0] at q; exact absurd q (by decide), fun u t hu v e => by obtain ⟨f1, f2, f3⟩ := rs_eq_some (show getS s = some (u, (sb u).length) by rw [e]; exact getS_sb hu t); have := q3 v f3 (rsK_le s); rw [g0] at this; exact absurd this (by decide)⟩
  ·
   refine WC.condT rfl ?_
   refine WC.run ?_
   refine WS.op rfl rfl (WS.op rfl rfl (WS.op rfl rfl ?_))
   refine WS.st1 (M6.focus 1 rfl) [(.string (bs (rsT s)))] (cells.set k (.string (bs (rsT s)))) rfl rfl rfl rfl rfl (Nat.le_of_ble_eq_true rfl) (by exact hkl) rfl (splice_set hkl) ?_
   intro h7 M8
   replace M8 : Mem _ _ ([(q, _)] :: [(r, _)] :: L) _ := M8
   refine WS.nil [] rfl ?_
   refine ⟨[], res_nil, ?_⟩
   have g0 : b' = false := by first | simpa using hb1 | simpa using hb2
   obtain ⟨g1, g2, g3, g4⟩ := q1 g0
   exact ⟨_, _, rsT s, rfl, ((M8.focus 0 rfl).focus 1 rfl), by rw [g4, List.length_drop]; omega, hrs, fun q => ⟨g1, by rw [g4]; exact (getS_some (show getS s = some (rsT s, rsK s) by rw [getS_eq, g2]; rfl)).1⟩, fun u t hu _ e => by obtain ⟨f1, f2, f3⟩ := rs_eq_some (show getS s = some (u, (sb u).length) by rw [e]; exact getS_sb hu t); exact ⟨g0, f1, by rw [g4, f2, e, List.drop_left]⟩⟩
theorem well_ran (W : Mem h h [] []) {r : Nat} {s : List UInt8} {b : Bool} (hp : h.get r = some ⟨[.string (bs s), .bool b], 0, false⟩) : Cll tab0 58 [.pointer (some ⟨r, 0, none⟩)] h (fun v h2 => v = .bool (decide (b = false ∧ s = [])) ∧ Mem h h2 [] []) := by
  refine Cll.code rfl rfl ?_
  refine WC.env [(0, _)] rfl ?_
  refine WC.seq ?_
  refine WC.run ?_
  refine WS.op rfl rfl (WS.nil [(0, _)] rfl ?_)
  refine WC.seq ?_
  refine WC.run ?_
  refine WS.op rfl rfl (WS.op rfl rfl (WS.op rfl rfl (WS.op rfl (op_ld (W.sub _ _ hp) rfl rfl) ?_)))
  cases hb1 : b
  ·
   refine WS.opV (.bool true) rfl rfl rfl (WS.op rfl rfl (WS.op rfl rfl (WS.op rfl rfl (WS.op rfl rfl (WS.op rfl (op_ld (W.sub _ _ hp) rfl rfl) ?_)))))
   refine WS.seql (l := s) (m := []) rfl rfl rfl (fun e13 => ?_) (fun e13 => ?_)
   ·
    refine WS.op rfl rfl (WS.op rfl rfl (WS.nil [(2, _)] rfl ?_))
    refine WC.ret ?_
    refine ⟨[_], (res_tmp rfl res_nil), ?_⟩
    exact ⟨by rw [decide_eq_true ⟨by first | assumption | rfl, by assumption⟩]; rfl, W.bare.take 0⟩
   ·
    refine WS.op rfl rfl (WS.op rfl rfl (WS.nil [(2, _)] rfl ?_))
    refine WC.ret ?_
    refine ⟨[_], (res_tmp rfl res_nil), ?_⟩
    exact ⟨by rw [decide_eq_false (by rintro ⟨q1, q2⟩; first | exact absurd q2 (by assumption) | (cases q1; done) | (rw [hb1] at q1; cases q1))]; rfl, W.bare.take 0⟩
  ·
   refine WS.opV (.bool false) rfl rfl rfl (WS.op rfl rfl (WS.off rfl (WS.off rfl (WS.off rfl (WS.off rfl (WS.off rfl (WS.op rfl rfl (WS.op rfl rfl (WS.nil [(2, _)] rfl ?_)))))))))
   refine WC.ret ?_
   refine ⟨[_], (res_tmp rfl res_nil), ?_⟩
   exact ⟨by rw [decide_eq_false (by rintro ⟨q1, q2⟩; first | exact absurd q2 (by assumption) | (cases q1; done) | (rw [hb1] at q1; cases q1))]; rfl, W.bare.take 0⟩
theorem own_block {α : Type} {K : Row α} {V : Value} {l : List α} {S : Seg} (O : K.Own V l S) (hne : l ≠ []) : ∃ p, V = .slice (some ⟨p, 0, none⟩) l.length (2 * l.length) ∧ S = [(p, ⟨K.flat l, K.n, false⟩)] := by
  cases O with
  | nil => exact absurd rfl hne
  | row p l h => exact ⟨p, rfl, rfl⟩
theorem FitP_set {l : List Part} {i : Nat} {y : Part} (h : FitP l) (hy : y.ky.length ≤ 300000 ∧ y.va.length ≤ 300000) : FitP (l.set i y) := by
  intro p hp
  rcases List.mem_or_eq_of_mem_set hp with q | q
  · exact h p q
  · subst q; exact hy
theorem FitP_app {l : List Part} (h : FitP l) : FitP (l ++ [⟨0, [], []⟩]) := by
  intro p hp
  rcases List.mem_append.1 hp with q | q
  · exact h p q
  · rw [List.mem_singleton] at q; subst q; exact ⟨Nat.zero_le _, Nat.zero_le _⟩
def Ahead (s : List UInt8) (b : Bool) (qs : List Part) (t : List UInt8) : Prop := qs.length ≤ 4 ∧ FitP qs ∧ (∀ q ∈ qs, q.op.toNat ≠ 2 → q.va = []) ∧ b = false ∧ s = (UInt8.ofNat qs.length :: qs.flatMap partB) ++ t
theorem set_end {α : Type} {l : List α} {z y : α} {i : Nat} (h : l.length = i) : (l ++ [z]).set i y = l ++ [y] := by subst h; simp
theorem drop_flat {qs : List Part} {i : Nat} {y : Part} (h : qs[i]? = some y) : (qs.drop i).flatMap partB = partB y ++ (qs.drop (i + 1)).flatMap partB := by
  have hi := (List.getElem?_eq_some_iff.1 h).1
  rw [List.drop_eq_getElem_cons hi, List.flatMap_cons]
  rw [List.getElem?_eq_getElem hi] at h; cases h; rfl
set_option maxRecDepth 8000 in
theorem partsR_ran {r p : Nat} {s : List UInt8} {b : Bool} {c : Cmd} (M : Mem base h ([(r, ⟨[.string (bs s), .bool b], 0, false⟩)] :: [(p, ⟨c.cells (.slice none 0 0), 0, false⟩)] :: L) []) (hl : s.length ≤ 300000) : Cll tab0 74 [.iface 98 (.pointer (some ⟨r, 0, none⟩)), .pointer (some ⟨p, 0, none⟩)] h (fun v h2 => ∃ s' b' V ps S, v = .tuple #[] ∧ KPart.Own V ps S ∧ ps.length ≤ 40 ∧ FitP ps ∧ (∀ qs t, Ahead s b qs t → b' = false ∧ ps = qs ∧ s' = t) ∧ (b' = false → b = false) ∧ Mem base h2 (S :: [(r, ⟨[.string (bs s'), .bool b'], 0, false⟩)] :: [(p, ⟨c.cells V, 0, false⟩)] :: L) []) := by
  refine Cll.code rfl rfl ?_
  refine WC.env [(0, _), (1, _)] rfl ?_
  refine WC.seq ?_
  refine WC.run ?_
  refine WS.op rfl rfl (WS.op rfl rfl (WS.op rfl rfl (WS.op rfl (op_ld (M.at 1 rfl) rfl rfl) (WS.op rfl rfl (WS.opV (.int .u8 0) rfl rfl rfl ?_)))))
  refine WS.new M rfl ?_
  intro p1 h2 M3
  refine WS.st1 (M3.focus 0 rfl) [_] [_] rfl rfl rfl rfl rfl (Nat.le_of_ble_eq_true rfl) (Nat.le_of_ble_eq_true rfl) rfl rfl ?_
  intro h4 M5
  replace M5 : Mem _ _ ([(p1, _)] :: [(r, _)] :: [(p, _)] :: L) _ := M5
  refine WS.nil [(0, _), (1, _), (4, _)] rfl ?_
  refine WC.seq ?_
  refine WC.run ?_
  refine WS.op rfl rfl ?_
  refine WS.call rfl rfl rfl (r_byte_ran (s := s) (b := b) (k := 0) (old := 0) ((M5.focus 0 rfl).focus 1 rfl) rfl (by omega)) ?_
  rintro _ h6 ⟨s6_, b6_, m6_, rfl, M7, R6_⟩
  have R6_l := R6_.1
  replace M7 : Mem _ _ ([(r, _)] :: [(p1, _)] :: [(p, _)] :: L) _ := M7
  refine WS.nil [(0, _), (1, _), (4, _)] rfl ?_
  refine WC.seq ?_
  refine WC.run ?_
  refine WS.op rfl (op_ld (M7.at 1 rfl) rfl rfl) (WS.opV (.int .i64 (((m6_).toNat : Nat) : Int)) rfl rfl (cv_i64 (n := (m6_).toNat) (by have := UInt8.toNat_lt (m6_); omega)) (WS.opV (.int .i64 (((min ((m6_).toNat) 4) : Nat) : Int)) rfl rfl (mm_min (a := (m6_).toNat) (b := 4)) (WS.op rfl rfl (WS.nil [(0, _), (1, _), (17, _), (18, _)] rfl ?_))))
  refine WC.block ?_
  obtain ⟨L8, eL10, M9⟩ := Mem.name3 ((((M7.bare.focus 2 rfl).focus 1 rfl)).nils)
  refine WC.loop (σ := List UInt8 × Bool × List Part × Value × Seg × Nat) (fun ((s_, b_, ps, V_, S_, i)) => [(0, (.iface 98 (.pointer (some ⟨r, 0, none⟩)))), (1, (.pointer (some ⟨p, 0, none⟩))), (17, (.int .i64 (((min ((m6_).toNat) 4) : Nat) : Int))), (18, (.int .i64 ((i : Nat) : Int)))]) (fun ((s_, b_, ps, V_, S_, i)) hh => Mem base hh (S_ :: [(r, ⟨[(.string (bs s_)), (.bool b_)], 0, false⟩)] :: [(p, ⟨[(.int .u8 (((c.op).toNat : Nat) : Int)), (.int .u64 (((c.se).toNat : Nat) : Int)), (.int .u64 (((c.sq).toNat : Nat) : Int)), (.string (bs c.ky)), (.string (bs c.va)), (.string (bs c.ex)), (.string (bs c.fr)), (.string (bs c.to)), (.int .u8 (((c.li).toNat : Nat) : Int)), (.int .u64 (((c.le).toNat : Nat) : Int)), (.int .u64 (((c.tt).toNat : Nat) : Int)), V_], 0, false⟩)] :: L8) [] ∧ KPart.Own V_ ps S_ ∧ ps.length = i ∧ i ≤ 4 ∧ s_.length ≤ s.length ∧ FitP ps ∧ (∀ qs t, Ahead s b qs t → b_ = false ∧ ((m6_).toNat) = qs.length ∧ ps = qs.take i ∧ s_ = (qs.drop i).flatMap partB ++ t) ∧ (b_ = false → b = false)) (fun ((s_, b_, ps, V_, S_, i)) => 4 - i) (s6_, b6_, [], .slice none 0 0, [], 0) rfl ⟨(by exact M9), ?_⟩ ?_
  · exact ⟨.nil, rfl, by omega, by omega, (by intro p hp; cases hp), (fun qs t ⟨a1, a2, a3, a4, a5⟩ => by obtain ⟨z1, z2, z3⟩ := R6_.2.2 _ _ a4 a5; exact ⟨z1, by rw [z2]; exact toNat_ofNat (by omega), rfl, z3⟩), fun q => (R6_.2.1 q).1⟩
  ·rintro ⟨s_, b_, ps, V_, S_, i⟩ h11 ⟨M12, ⟨hO, hlen, hi1, hsl, hF, hI, hB⟩⟩
   subst eL10
   refine WC.env [(0, _), (1, _), (17, _), (18, _)] rfl ?_
   obtain ⟨P_, rfl⟩ := hO.shape
   refine WC.seq ?_
   refine WC.run ?_
   refine WS.lssN (a := i) (b := (min ((m6_).toNat) 4)) rfl rfl rfl (fun e19 => ?_) (fun e19 => ?_)
   ·
    refine WS.nil [(0, _), (1, _), (17, _), (18, _), (19, _)] rfl ?_
    refine WC.seq ?_
    refine WC.condT rfl ?_
    refine WC.skip ?_
    refine WC.seq ?_
    refine WC.block ?_
    refine WC.seq ?_
    refine WC.run ?_
    refine WS.op rfl rfl (WS.op rfl rfl (WS.nil [(0, _), (1, _), (5, _), (17, _), (18, _)] rfl ?_))
    refine WC.seq ?_
    refine WC.seq ?_
    refine WC.run ?_
    refine WS.op rfl rfl (WS.op rfl rfl (WS.op rfl rfl (WS.op rfl rfl (WS.op rfl (op_ld (M12.at 2 rfl) rfl rfl) (WS.op rfl (op_lenVO hO rfl) ?_)))))
    refine WS.eqlN (a := i) (b := (ps).length) rfl rfl rfl (fun e27 => ?_) (fun e27 => ?_)
    ·
     refine WS.nil [(0, _), (1, _), (5, _), (17, _), (18, _), (27, _)] rfl ?_
     refine WC.condT rfl ?_
     refine WC.run ?_
     refine WS.op rfl rfl (WS.op rfl rfl (WS.op rfl rfl (WS.op rfl rfl (WS.op rfl (op_ld (M12.at 2 rfl) rfl rfl) (WS.opV (.agg #[(.int .u8 (0 : Int)), (.string (bs ([]))), (.string (bs ([])))]) rfl rfl rfl ?_)))))
     refine WS.bsl M12 [_, _, _] rfl rfl rfl rfl ?_
     intro p13 h14 M15
     refine WS.app (l := ps) (m := [(⟨0, [], []⟩ : Part)]) (hO) (M15.focus 1 rfl) (Row.Src.one (K := KPart) (m := [(⟨0, [], []⟩ : Part)]) (M15.at 0 rfl)) rfl (by simp only [List.length_cons, List.length_nil]; omega) (by simp only [List.length_cons, List.length_nil]; omega) rfl rfl rfl ?_
     intro V16 S17 h18 O19 M20
     obtain ⟨P21, rfl⟩ := Row.Own.shape O19
     refine WS.op rfl rfl (WS.op rfl rfl ?_)
     refine WS.st1 (M20.focus 3 rfl) [_] [_, _, _, _, _, _, _, _, _, _, _, _] rfl rfl rfl rfl rfl (Nat.le_of_ble_eq_true rfl) (Nat.le_of_ble_eq_true rfl) rfl rfl ?_
     intro h22 M23
     replace M23 : Mem _ _ ([(p, _)] :: S17 :: [(p13, _)] :: [(r, _)] :: [(p1, _)] :: L) _ := M23
     refine WS.nil [(0, _), (1, _), (5, _), (17, _), (18, _)] rfl ?_
     refine WC.seq ?_
     refine WC.run ?_
     refine WS.op rfl rfl (WS.op rfl rfl (WS.op rfl rfl (WS.op rfl (op_ld (M23.at 0 rfl) rfl rfl) (WS.op rfl rfl ?_))))
     obtain ⟨pp, hV_, rfl⟩ := own_block O19 (by simp)
     cases hV_
     have hy43 : ((ps ++ [(⟨0, [], []⟩ : Part)]))[i]? = some (⟨0, [], []⟩ : Part) := by rw [← hlen]; simp
     refine WS.op rfl (op_iaV2 i rfl rfl (by simp only [List.length_append, List.length_cons, List.length_nil]; omega)) (WS.op rfl rfl (WS.nil [(0, _), (1, _), (6, _), (17, _), (18, _)] rfl ?_))
     refine WC.seq ?_
     refine WC.draw M23 [] rfl ?_
     intro rb24 h25 M26
     refine WS.op rfl rfl (WS.op rfl rfl (WS.op rfl rfl (WS.op rfl rfl (WS.op rfl rfl (WS.op rfl rfl (WS.op rfl rfl ?_))))))
     refine WS.call rfl rfl rfl (r_byte_ran (s := s_) (b := b_) (k := 0 + i * 3 + 0) (old := ((⟨0, [], []⟩ : Part).op)) ((M26.focus 1 rfl).focus 3 rfl) (flat_at0 hy43 rfl) (by omega)) ?_
     rintro _ h27 ⟨s27_, b27_, m27_, rfl, M28, R27_⟩
     have R27_l := R27_.1
     rw [show (KPart.flat (ps ++ [(⟨0, [], []⟩ : Part)])).set (0 + i * 3 + 0) (.int .u8 (((m27_).toNat : Nat) : Int)) = KPart.flat ((ps ++ [(⟨0, [], []⟩ : Part)]).set i (⟨m27_, [], []⟩ : Part)) from flat_set0 (K := KPart) (k := 0) hy43 (by decide) rfl] at M28
     have hyh27 : ((ps ++ [(⟨0, [], []⟩ : Part)]).set i (⟨m27_, [], []⟩ : Part))[i]? = some (⟨m27_, [], []⟩ : Part) := List.getElem?_set_self (List.getElem?_eq_some_iff.1 hy43).1
     replace M28 : Mem _ _ ([(r, _)] :: [(pp, _)] :: [(p, _)] :: [(p13, _)] :: [(p1, _)] :: L) _ := M28
     refine WS.nil [(0, _), (1, _), (6, _), (17, _), (18, _)] rfl ?_
     refine WC.seq ?_
     refine WC.draw M28.bare [] rfl ?_
     intro rb29 h30 M31
     refine WS.op rfl rfl (WS.op rfl rfl (WS.op rfl rfl (WS.op rfl rfl (WS.op rfl rfl (WS.op rfl rfl (WS.op rfl rfl ?_))))))
     refine WS.call rfl rfl rfl (r_text_ran (s := s27_) (b := b27_) (k := 0 + i * 3 + 1) ((M31.focus 1 rfl).focus 1 rfl) (flat_at0 hyh27 rfl) (by omega) rfl) ?_
     rintro _ h32 ⟨s32_, b32_, m32_, rfl, M33, R32_⟩
     have R32_l := R32_.1
     have R32_t := R32_.2.1
     rw [show (KPart.flat ((ps ++ [(⟨0, [], []⟩ : Part)]).set i (⟨m27_, [], []⟩ : Part))).set (0 + i * 3 + 1) (.string (bs m32_)) = KPart.flat (((ps ++ [(⟨0, [], []⟩ : Part)]).set i (⟨m27_, [], []⟩ : Part)).set i (⟨m27_, m32_, []⟩ : Part)) from flat_set0 (K := KPart) (k := 1) hyh27 (by decide) rfl] at M33
     have hyh32 : (((ps ++ [(⟨0, [], []⟩ : Part)]).set i (⟨m27_, [], []⟩ : Part)).set i (⟨m27_, m32_, []⟩ : Part))[i]? = some (⟨m27_, m32_, []⟩ : Part) := List.getElem?_set_self (List.getElem?_eq_some_iff.1 hyh27).1
     replace M33 : Mem _ _ ([(r, _)] :: [(pp, _)] :: [(p, _)] :: [(p13, _)] :: [(p1, _)] :: L) _ := M33
     refine WS.nil [(0, _), (1, _), (6, _), (17, _), (18, _)] rfl ?_
     refine WC.seq ?_
     refine WC.run ?_
     refine WS.op rfl rfl (WS.op rfl rfl (WS.op rfl rfl (WS.op rfl (op_ldH rfl (Row.ld (K := KPart) (k := 0) (M33.bare.at 1 rfl) hyh32 rfl)) ?_)))
     refine WS.eqlN (a := ((⟨m27_, m32_, []⟩ : Part).op).toNat) (b := 2) rfl rfl rfl (fun e64 => ?_) (fun e64 => ?_)
     ·
      refine WS.nil [(0, _), (1, _), (6, _), (17, _), (18, _), (64, _)] rfl ?_
      refine WC.condT rfl ?_
      refine WC.draw M33.bare [] rfl ?_
      intro rb34 h35 M36
      refine WS.op rfl rfl (WS.op rfl rfl (WS.op rfl rfl (WS.op rfl rfl (WS.op rfl rfl (WS.op rfl rfl (WS.op rfl rfl ?_))))))
      refine WS.call rfl rfl rfl (r_text_ran (s := s32_) (b := b32_) (k := 0 + i * 3 + 2) ((M36.focus 1 rfl).focus 1 rfl) (flat_at0 hyh32 rfl) (by omega) rfl) ?_
      rintro _ h37 ⟨s37_, b37_, m37_, rfl, M38, R37_⟩
      have R37_l := R37_.1
      have R37_t := R37_.2.1
      rw [show (KPart.flat (((ps ++ [(⟨0, [], []⟩ : Part)]).set i (⟨m27_, [], []⟩ : Part)).set i (⟨m27_, m32_, []⟩ : Part))).set (0 + i * 3 + 2) (.string (bs m37_)) = KPart.flat ((((ps ++ [(⟨0, [], []⟩ : Part)]).set i (⟨m27_, [], []⟩ : Part)).set i (⟨m27_, m32_, []⟩ : Part)).set i (⟨m27_, m32_, m37_⟩ : Part)) from flat_set0 (K := KPart) (k := 2) hyh32 (by decide) rfl] at M38
      have hyh37 : ((((ps ++ [(⟨0, [], []⟩ : Part)]).set i (⟨m27_, [], []⟩ : Part)).set i (⟨m27_, m32_, []⟩ : Part)).set i (⟨m27_, m32_, m37_⟩ : Part))[i]? = some (⟨m27_, m32_, m37_⟩ : Part) := List.getElem?_set_self (List.getElem?_eq_some_iff.1 hyh32).1
      replace M38 : Mem _ _ ([(r, _)] :: [(pp, _)] :: [(p, _)] :: [(p13, _)] :: [(p1, _)] :: L) _ := M38
      refine WS.nil [(0, _), (1, _), (17, _), (18, _)] rfl ?_
      refine WC.run ?_
      refine WS.opV (.int .i64 (((i + 1) : Nat) : Int)) rfl rfl (add_i64 (a := i) (b := 1) (by omega)) (WS.op rfl rfl (WS.nil [(0, _), (1, _), (17, _), (18, _)] rfl ?_))
      refine ⟨(s37_, b37_, ((((ps ++ [(⟨0, [], []⟩ : Part)]).set i (⟨m27_, [], []⟩ : Part)).set i (⟨m27_, m32_, []⟩ : Part)).set i (⟨m27_, m32_, m37_⟩ : Part)), (.slice (some ⟨pp, 0, none⟩) ((ps ++ [(⟨0, [], []⟩ : Part)])).length (2 * ((ps ++ [(⟨0, [], []⟩ : Part)])).length)), [(pp, ⟨KPart.flat ((((ps ++ [(⟨0, [], []⟩ : Part)]).set i (⟨m27_, [], []⟩ : Part)).set i (⟨m27_, m32_, []⟩ : Part)).set i (⟨m27_, m32_, m37_⟩ : Part)), 3, false⟩)], i + 1), rfl, ⟨((((((M38.bare.focus 3 rfl).drop).focus 3 rfl).focus 3 rfl).focus 2 rfl).focus 3 rfl), ?_⟩, ?_⟩
      · exact ⟨(by have q_ := Row.Own.row (K := KPart) pp ((((ps ++ [(⟨0, [], []⟩ : Part)]).set i (⟨m27_, [], []⟩ : Part)).set i (⟨m27_, m32_, []⟩ : Part)).set i (⟨m27_, m32_, m37_⟩ : Part)) (by intro q; have := congrArg List.length q; simp at this); rw [show (((((ps ++ [(⟨0, [], []⟩ : Part)]).set i (⟨m27_, [], []⟩ : Part)).set i (⟨m27_, m32_, []⟩ : Part)).set i (⟨m27_, m32_, m37_⟩ : Part))).length = ((ps ++ [(⟨0, [], []⟩ : Part)])).length by simp] at q_; exact q_), by simp [hlen], by omega, by omega, (by (repeat' (first | exact FitP_app hF | refine FitP_set ?_ ⟨by dsimp only; first | omega | simp, by dsimp only; first | omega | simp⟩))), (fun qs t hA => by obtain ⟨u1, u2, u3, u4⟩ := hI qs t hA; have h4 := hA.1; obtain ⟨y, hy⟩ : ∃ y, qs[i]? = some y := ⟨_, List.getElem?_eq_getElem (show i < qs.length by omega)⟩; rw [drop_flat hy] at u4; obtain ⟨y0, y1, y2⟩ := R27_.2.2 y.op ((sb y.ky ++ (if y.op.toNat = 2 then sb y.va else [])) ++ ((qs.drop (i + 1)).flatMap partB ++ t)) u1 (by rw [u4]; simp [partB]); obtain ⟨v1, v2, v3⟩ := R32_.2.2.2 y.ky ((if y.op.toNat = 2 then sb y.va else []) ++ ((qs.drop (i + 1)).flatMap partB ++ t)) (by have := (hA.2.1 _ (mem_get hy)).1; omega) y0 (by rw [y2]; simp); rw [if_pos (by rw [← y1]; first | assumption | omega)] at v3; obtain ⟨x1, x2, x3⟩ := R37_.2.2.2 y.va ((qs.drop (i + 1)).flatMap partB ++ t) (by have := (hA.2.1 _ (mem_get hy)).2; omega) v1 v3; exact ⟨x1, u2, by rw [show (⟨m27_, m32_, m37_⟩ : Part) = y from by (obtain ⟨a, b, c⟩ := y; simp only at y1 v2 x2; rw [y1, v2, x2])]; simp only [List.set_set]; rw [set_end hlen, u3, List.take_add_one, hy]; rfl, x3⟩), fun q => hB (R27_.2.1 (R32_.2.2.1 (R37_.2.2.1 q).1).1).1⟩
      · simp only []; omega
     ·
      refine WS.nil [(0, _), (1, _), (6, _), (17, _), (18, _), (64, _)] rfl ?_
      refine WC.condF rfl ?_
      refine WC.skip ?_
      refine WC.run ?_
      refine WS.opV (.int .i64 (((i + 1) : Nat) : Int)) rfl rfl (add_i64 (a := i) (b := 1) (by omega)) (WS.op rfl rfl (WS.nil [(0, _), (1, _), (17, _), (18, _)] rfl ?_))
      refine ⟨(s32_, b32_, (((ps ++ [(⟨0, [], []⟩ : Part)]).set i (⟨m27_, [], []⟩ : Part)).set i (⟨m27_, m32_, []⟩ : Part)), (.slice (some ⟨pp, 0, none⟩) ((ps ++ [(⟨0, [], []⟩ : Part)])).length (2 * ((ps ++ [(⟨0, [], []⟩ : Part)])).length)), [(pp, ⟨KPart.flat (((ps ++ [(⟨0, [], []⟩ : Part)]).set i (⟨m27_, [], []⟩ : Part)).set i (⟨m27_, m32_, []⟩ : Part)), 3, false⟩)], i + 1), rfl, ⟨((((((M33.bare.focus 3 rfl).drop).focus 3 rfl).focus 3 rfl).focus 2 rfl).focus 3 rfl), ?_⟩, ?_⟩
      · exact ⟨(by have q_ := Row.Own.row (K := KPart) pp (((ps ++ [(⟨0, [], []⟩ : Part)]).set i (⟨m27_, [], []⟩ : Part)).set i (⟨m27_, m32_, []⟩ : Part)) (by intro q; have := congrArg List.length q; simp at this); rw [show ((((ps ++ [(⟨0, [], []⟩ : Part)]).set i (⟨m27_, [], []⟩ : Part)).set i (⟨m27_, m32_, []⟩ : Part))).length = ((ps ++ [(⟨0, [], []⟩ : Part)])).length by simp] at q_; exact q_), by simp [hlen], by omega, by omega, (by (repeat' (first | exact FitP_app hF | refine FitP_set ?_ ⟨by dsimp only; first | omega | simp, by dsimp only; first | omega | simp⟩))), (fun qs t hA => by obtain ⟨u1, u2, u3, u4⟩ := hI qs t hA; have h4 := hA.1; obtain ⟨y, hy⟩ : ∃ y, qs[i]? = some y := ⟨_, List.getElem?_eq_getElem (show i < qs.length by omega)⟩; rw [drop_flat hy] at u4; obtain ⟨y0, y1, y2⟩ := R27_.2.2 y.op ((sb y.ky ++ (if y.op.toNat = 2 then sb y.va else [])) ++ ((qs.drop (i + 1)).flatMap partB ++ t)) u1 (by rw [u4]; simp [partB]); obtain ⟨v1, v2, v3⟩ := R32_.2.2.2 y.ky ((if y.op.toNat = 2 then sb y.va else []) ++ ((qs.drop (i + 1)).flatMap partB ++ t)) (by have := (hA.2.1 _ (mem_get hy)).1; omega) y0 (by rw [y2]; simp); rw [if_neg (by rw [← y1]; first | assumption | omega), List.nil_append] at v3; have hva := hA.2.2.1 y (mem_get hy) (by rw [← y1]; assumption); exact ⟨v1, u2, by rw [show (⟨m27_, m32_, []⟩ : Part) = y from by (obtain ⟨a, b, c⟩ := y; simp only at hva y1 v2; rw [y1, v2, hva])]; simp only [List.set_set]; rw [set_end hlen, u3, List.take_add_one, hy]; rfl, v3⟩), fun q => hB (R27_.2.1 (R32_.2.2.1 q).1).1⟩
      · simp only []; omega
    ·
     exact absurd hlen.symm e27
   ·
    refine WS.nil [(0, _), (1, _), (17, _), (18, _), (19, _)] rfl ?_
    refine WC.seq ?_
    refine WC.condF rfl ?_
    refine WC.exit ?_
    refine ⟨[], res_nil, ?_⟩
    exact ⟨_, _, _, _, _, rfl, hO, by omega, hF, fun qs t hA => by obtain ⟨z1, z2, z3, z4⟩ := hI qs t hA; have := hA.1; exact ⟨z1, by rw [z3, List.take_of_length_le (by omega)], by rw [z4, List.drop_eq_nil_of_le (by omega)]; rfl⟩, hB, (M12.focus 3 rfl).drop⟩
end Go.Proofs.Yteikngjiaboeaaa.Wt
namespace Go.Proofs.Yteikngjiaboeaaa.Wt
open Go Go.Proofs.Yteikngjiaboeaaa.Am Go.Proofs.Yteikngjiaboeaaa.IrAll
set_option linter.unusedVariables false
set_option linter.unusedSimpArgs false
variable {h base : H} {L : List Seg} {R : List Nat}
set_option maxRecDepth 8000 in
theorem walkR_ran {r p : Nat} {s : List UInt8} (M : Mem base h ([(r, ⟨[.string (bs s), .bool false], 0, false⟩)] :: [(p, ⟨[.int .u8 0, .int .u64 0, .int .u64 0, .string (bs []), .string (bs []), .string (bs []), .string (bs []), .string (bs []), .int .u8 0, .int .u64 0, .int .u64 0, .slice none 0 0], 0, false⟩)] :: L) []) (hl : s.length ≤ 300000) :
    Cll tab0 52 [.iface 98 (.pointer (some ⟨r, 0, none⟩)), .pointer (some ⟨p, 0, none⟩)] h (fun v h2 => ∃ c V S s' b', v = .tuple #[] ∧ KPart.Own V (Cmd.ps c) S ∧ Fit c ∧ (∀ c0, MayC c0 → Fit c0 → s = encC c0 → b' = false ∧ c = c0 ∧ s' = []) ∧ (b' = false → s ≠ []) ∧ Mem base h2 (S :: [(r, ⟨[.string (bs s'), .bool b'], 0, false⟩)] :: [(p, ⟨c.cells V, 0, false⟩)] :: L) []) := by
  refine Cll.code rfl rfl ?_
  refine WC.env [(0, _), (1, _)] rfl ?_
  refine WC.seq ?_
  refine WC.draw M [] rfl ?_
  intro rb1 h2 M3
  refine WS.op rfl rfl (WS.op rfl rfl (WS.op rfl rfl (WS.op rfl rfl (WS.op rfl rfl (WS.op rfl rfl (WS.op rfl rfl ?_))))))
  refine WS.call rfl rfl rfl (r_byte_ran (s := s) (b := false) (k := 0) (old := 0) ((M3.focus 1 rfl).focus 1 rfl) rfl (by omega)) ?_
  rintro _ h4 ⟨s4_, b4_, m4_, rfl, M5, R4_⟩
  have R4_l := R4_.1
  replace M5 : Mem _ _ ([(r, _)] :: [(p, _)] :: L) _ := M5
  refine WS.nil [(0, _), (1, _)] rfl ?_
  refine WC.seq ?_
  refine WC.draw M5.bare [] rfl ?_
  intro rb6 h7 M8
  refine WS.op rfl rfl (WS.op rfl rfl (WS.op rfl rfl (WS.op rfl rfl (WS.op rfl rfl (WS.op rfl rfl (WS.op rfl rfl ?_))))))
  refine WS.call rfl rfl rfl (r_number_ran (s := s4_) (b := b4_) (k := 1) (old := 0) ((M8.focus 1 rfl).focus 1 rfl) rfl (by omega)) ?_
  rintro _ h9 ⟨s9_, b9_, m9_, rfl, M10, R9_⟩
  have R9_l := R9_.1
  replace M10 : Mem _ _ ([(r, _)] :: [(p, _)] :: L) _ := M10
  refine WS.nil [(0, _), (1, _)] rfl ?_
  refine WC.seq ?_
  refine WC.draw M10.bare [] rfl ?_
  intro rb11 h12 M13
  refine WS.op rfl rfl (WS.op rfl rfl (WS.op rfl rfl (WS.op rfl rfl (WS.op rfl rfl (WS.op rfl rfl (WS.op rfl rfl ?_))))))
  refine WS.call rfl rfl rfl (r_number_ran (s := s9_) (b := b9_) (k := 2) (old := 0) ((M13.focus 1 rfl).focus 1 rfl) rfl (by omega)) ?_
  rintro _ h14 ⟨s14_, b14_, m14_, rfl, M15, R14_⟩
  have R14_l := R14_.1
  replace M15 : Mem _ _ ([(r, _)] :: [(p, _)] :: L) _ := M15
  refine WS.nil [(0, _), (1, _)] rfl ?_
  refine WC.seq ?_
  refine WC.run ?_
  refine WS.op rfl rfl (WS.op rfl rfl (WS.op rfl rfl (WS.op rfl (op_ld (M15.bare.at 1 rfl) rfl rfl) (WS.nil [(0, _), (1, _), (31, _)] rfl ?_))))
  refine WC.block ?_
  refine WC.seq ?_
  refine WC.seq ?_
  refine WC.run ?_
  refine WS.eqlN (a := (m4_).toNat) (b := 1) rfl rfl rfl (fun e33 => ?_) (fun e33 => ?_)
  ·
   refine WS.op rfl rfl (WS.nil [(0, _), (1, _), (31, _), (32, _)] rfl ?_)
   refine WC.condT rfl ?_
   refine WC.skip ?_
   refine WC.condT rfl ?_
   refine WC.draw M15.bare [] rfl ?_
   intro rb16 h17 M18
   refine WS.op rfl rfl (WS.op rfl rfl (WS.op rfl rfl (WS.op rfl rfl (WS.op rfl rfl (WS.op rfl rfl (WS.op rfl rfl ?_))))))
   refine WS.call rfl rfl rfl (r_number_ran (s := s14_) (b := b14_) (k := 10) (old := 0) ((M18.focus 1 rfl).focus 1 rfl) rfl (by omega)) ?_
   rintro _ h19 ⟨s19_, b19_, m19_, rfl, M20, R19_⟩
   have R19_l := R19_.1
   replace M20 : Mem _ _ ([(r, _)] :: [(p, _)] :: L) _ := M20
   refine WS.nil [] rfl ?_
   refine ⟨[], res_nil, ?_⟩
   refine ⟨(⟨m4_, m9_, m14_, ([]), ([]), ([]), ([]), ([]), 0, 0, m19_, []⟩ : Cmd), _, _, _, _, rfl, .nil, ?_, ?_, ?_, ((M20.bare)).nils⟩
   · unfold Fit; dsimp only; exact ⟨by first | omega | simp, by first | omega | simp, by first | omega | simp, by first | omega | simp, by first | omega | simp, by simp, by intro p hp; cases hp⟩
   · intro c0 hm hf0 he
     obtain ⟨a1, a2, a3⟩ := R4_.2.2 c0.op (vb c0.se.toNat ++ (vb c0.sq.toNat ++ bodyB c0)) rfl (by rw [he]; simp [encC, headB])
     obtain ⟨b1, b2, b3⟩ := R9_.2.2 c0.se.toNat _ c0.se.toNat_lt a1 a3
     obtain ⟨d1, d2, d3⟩ := R14_.2.2 c0.sq.toNat _ c0.sq.toNat_lt b1 b3
     obtain ⟨g1, g2, g3, g4, g5, g6, g7⟩ := hf0
     obtain ⟨p1, p2⟩ := enc_1 (c := c0) (by rw [← a2]; omega)
     rw [p2] at d3
     obtain ⟨z0a, z0b, z0c⟩ := R19_.2.2 c0.tt.toNat ([]) (UInt64.toNat_lt _) d1 (by first | (rw [d3]; done) | (rw [d3]; simp))
     exact ⟨z0a, by rw [hm.2.1, p1]; simp only [blank]; rw [a2, u64_inj b2, u64_inj d2, u64_inj z0b], z0c⟩
   · intro q w; have z := (R4_.2.1 (R9_.2.1 (R14_.2.1 (R19_.2.1 q).1).1).1); rw [w] at z; exact absurd z.2 (by simp)
  ·
   refine WS.op rfl rfl (WS.nil [(0, _), (1, _), (31, _), (32, _)] rfl ?_)
   refine WC.condF rfl ?_
   refine WC.run ?_
   refine WS.eqlN (a := (m4_).toNat) (b := 6) rfl rfl rfl (fun e34 => ?_) (fun e34 => ?_)
   ·
    refine WS.op rfl rfl (WS.nil [(0, _), (1, _), (31, _), (32, _)] rfl ?_)
    refine WC.condT rfl ?_
    refine WC.draw M15.bare [] rfl ?_
    intro rb21 h22 M23
    refine WS.op rfl rfl (WS.op rfl rfl (WS.op rfl rfl (WS.op rfl rfl (WS.op rfl rfl (WS.op rfl rfl (WS.op rfl rfl ?_))))))
    refine WS.call rfl rfl rfl (r_number_ran (s := s14_) (b := b14_) (k := 10) (old := 0) ((M23.focus 1 rfl).focus 1 rfl) rfl (by omega)) ?_
    rintro _ h24 ⟨s24_, b24_, m24_, rfl, M25, R24_⟩
    have R24_l := R24_.1
    replace M25 : Mem _ _ ([(r, _)] :: [(p, _)] :: L) _ := M25
    refine WS.nil [] rfl ?_
    refine ⟨[], res_nil, ?_⟩
    refine ⟨(⟨m4_, m9_, m14_, ([]), ([]), ([]), ([]), ([]), 0, 0, m24_, []⟩ : Cmd), _, _, _, _, rfl, .nil, ?_, ?_, ?_, ((M25.bare)).nils⟩
    · unfold Fit; dsimp only; exact ⟨by first | omega | simp, by first | omega | simp, by first | omega | simp, by first | omega | simp, by first | omega | simp, by simp, by intro p hp; cases hp⟩
    · intro c0 hm hf0 he
      obtain ⟨a1, a2, a3⟩ := R4_.2.2 c0.op (vb c0.se.toNat ++ (vb c0.sq.toNat ++ bodyB c0)) rfl (by rw [he]; simp [encC, headB])
      obtain ⟨b1, b2, b3⟩ := R9_.2.2 c0.se.toNat _ c0.se.toNat_lt a1 a3
      obtain ⟨d1, d2, d3⟩ := R14_.2.2 c0.sq.toNat _ c0.sq.toNat_lt b1 b3
      obtain ⟨g1, g2, g3, g4, g5, g6, g7⟩ := hf0
      obtain ⟨p1, p2⟩ := enc_1 (c := c0) (by rw [← a2]; omega)
      rw [p2] at d3
      obtain ⟨z0a, z0b, z0c⟩ := R24_.2.2 c0.tt.toNat ([]) (UInt64.toNat_lt _) d1 (by first | (rw [d3]; done) | (rw [d3]; simp))
      exact ⟨z0a, by rw [hm.2.1, p1]; simp only [blank]; rw [a2, u64_inj b2, u64_inj d2, u64_inj z0b], z0c⟩
    · intro q w; have z := (R4_.2.1 (R9_.2.1 (R14_.2.1 (R24_.2.1 q).1).1).1); rw [w] at z; exact absurd z.2 (by simp)
   ·
    refine WS.op rfl rfl (WS.nil [(0, _), (1, _), (31, _), (32, _)] rfl ?_)
    refine WC.condF rfl ?_
    refine WC.seq ?_
    refine WC.run ?_
    refine WS.eqlN (a := (m4_).toNat) (b := 2) rfl rfl rfl (fun e44 => ?_) (fun e44 => ?_)
    ·
     refine WS.op rfl rfl (WS.nil [(0, _), (1, _), (31, _), (43, _)] rfl ?_)
     refine WC.condT rfl ?_
     refine WC.seq ?_
     refine WC.draw M15.bare [] rfl ?_
     intro rb26 h27 M28
     refine WS.op rfl rfl (WS.op rfl rfl (WS.op rfl rfl (WS.op rfl rfl (WS.op rfl rfl (WS.op rfl rfl (WS.op rfl rfl ?_))))))
     refine WS.call rfl rfl rfl (r_text_ran (s := s14_) (b := b14_) (k := 3) ((M28.focus 1 rfl).focus 1 rfl) rfl (by omega) rfl) ?_
     rintro _ h29 ⟨s29_, b29_, m29_, rfl, M30, R29_⟩
     have R29_l := R29_.1
     have R29_t := R29_.2.1
     replace M30 : Mem _ _ ([(r, _)] :: [(p, _)] :: L) _ := M30
     refine WS.nil [(0, _), (1, _)] rfl ?_
     refine WC.seq ?_
     refine WC.draw M30.bare [] rfl ?_
     intro rb31 h32 M33
     refine WS.op rfl rfl (WS.op rfl rfl (WS.op rfl rfl (WS.op rfl rfl (WS.op rfl rfl (WS.op rfl rfl (WS.op rfl rfl ?_))))))
     refine WS.call rfl rfl rfl (r_text_ran (s := s29_) (b := b29_) (k := 4) ((M33.focus 1 rfl).focus 1 rfl) rfl (by omega) rfl) ?_
     rintro _ h34 ⟨s34_, b34_, m34_, rfl, M35, R34_⟩
     have R34_l := R34_.1
     have R34_t := R34_.2.1
     replace M35 : Mem _ _ ([(r, _)] :: [(p, _)] :: L) _ := M35
     refine WS.nil [(0, _), (1, _)] rfl ?_
     refine WC.draw M35.bare [] rfl ?_
     intro rb36 h37 M38
     refine WS.op rfl rfl (WS.op rfl rfl (WS.op rfl rfl (WS.op rfl rfl (WS.op rfl rfl (WS.op rfl rfl (WS.op rfl rfl ?_))))))
     refine WS.call rfl rfl rfl (r_number_ran (s := s34_) (b := b34_) (k := 9) (old := 0) ((M38.focus 1 rfl).focus 1 rfl) rfl (by omega)) ?_
     rintro _ h39 ⟨s39_, b39_, m39_, rfl, M40, R39_⟩
     have R39_l := R39_.1
     replace M40 : Mem _ _ ([(r, _)] :: [(p, _)] :: L) _ := M40
     refine WS.nil [] rfl ?_
     refine ⟨[], res_nil, ?_⟩
     refine ⟨(⟨m4_, m9_, m14_, m29_, m34_, ([]), ([]), ([]), 0, m39_, 0, []⟩ : Cmd), _, _, _, _, rfl, .nil, ?_, ?_, ?_, ((M40.bare)).nils⟩
     · unfold Fit; dsimp only; exact ⟨by first | omega | simp, by first | omega | simp, by first | omega | simp, by first | omega | simp, by first | omega | simp, by simp, by intro p hp; cases hp⟩
     · intro c0 hm hf0 he
       obtain ⟨a1, a2, a3⟩ := R4_.2.2 c0.op (vb c0.se.toNat ++ (vb c0.sq.toNat ++ bodyB c0)) rfl (by rw [he]; simp [encC, headB])
       obtain ⟨b1, b2, b3⟩ := R9_.2.2 c0.se.toNat _ c0.se.toNat_lt a1 a3
       obtain ⟨d1, d2, d3⟩ := R14_.2.2 c0.sq.toNat _ c0.sq.toNat_lt b1 b3
       obtain ⟨g1, g2, g3, g4, g5, g6, g7⟩ := hf0
       obtain ⟨p1, p2⟩ := enc_2 (c := c0) (by rw [← a2]; omega)
       rw [p2] at d3
       obtain ⟨z0a, z0b, z0c⟩ := R29_.2.2.2 c0.ky (sb c0.va ++ vb c0.le.toNat) (by omega) d1 (by first | (rw [d3]; done) | (rw [d3]; simp))
       obtain ⟨z1a, z1b, z1c⟩ := R34_.2.2.2 c0.va (vb c0.le.toNat) (by omega) z0a (by first | (rw [z0c]; done) | (rw [z0c]; simp))
       obtain ⟨z2a, z2b, z2c⟩ := R39_.2.2 c0.le.toNat ([]) (UInt64.toNat_lt _) z1a (by first | (rw [z1c]; done) | (rw [z1c]; simp))
       exact ⟨z2a, by rw [hm.2.1, p1]; simp only [blank]; rw [a2, u64_inj b2, u64_inj d2, z0b, z1b, u64_inj z2b], z2c⟩
     · intro q w; have z := (R4_.2.1 (R9_.2.1 (R14_.2.1 (R29_.2.2.1 (R34_.2.2.1 (R39_.2.1 q).1).1).1).1).1); rw [w] at z; exact absurd z.2 (by simp)
    ·
     refine WS.op rfl rfl (WS.nil [(0, _), (1, _), (31, _), (43, _)] rfl ?_)
     refine WC.condF rfl ?_
     refine WC.seq ?_
     refine WC.seq ?_
     refine WC.run ?_
     refine WS.eqlN (a := (m4_).toNat) (b := 3) rfl rfl rfl (fun e70 => ?_) (fun e70 => ?_)
     ·
      refine WS.op rfl rfl (WS.nil [(0, _), (1, _), (31, _), (69, _)] rfl ?_)
      refine WC.condT rfl ?_
      refine WC.skip ?_
      refine WC.condT rfl ?_
      refine WC.draw M15.bare [] rfl ?_
      intro rb41 h42 M43
      refine WS.op rfl rfl (WS.op rfl rfl (WS.op rfl rfl (WS.op rfl rfl (WS.op rfl rfl (WS.op rfl rfl (WS.op rfl rfl ?_))))))
      refine WS.call rfl rfl rfl (r_text_ran (s := s14_) (b := b14_) (k := 3) ((M43.focus 1 rfl).focus 1 rfl) rfl (by omega) rfl) ?_
      rintro _ h44 ⟨s44_, b44_, m44_, rfl, M45, R44_⟩
      have R44_l := R44_.1
      have R44_t := R44_.2.1
      replace M45 : Mem _ _ ([(r, _)] :: [(p, _)] :: L) _ := M45
      refine WS.nil [] rfl ?_
      refine ⟨[], res_nil, ?_⟩
      refine ⟨(⟨m4_, m9_, m14_, m44_, ([]), ([]), ([]), ([]), 0, 0, 0, []⟩ : Cmd), _, _, _, _, rfl, .nil, ?_, ?_, ?_, ((M45.bare)).nils⟩
      · unfold Fit; dsimp only; exact ⟨by first | omega | simp, by first | omega | simp, by first | omega | simp, by first | omega | simp, by first | omega | simp, by simp, by intro p hp; cases hp⟩
      · intro c0 hm hf0 he
        obtain ⟨a1, a2, a3⟩ := R4_.2.2 c0.op (vb c0.se.toNat ++ (vb c0.sq.toNat ++ bodyB c0)) rfl (by rw [he]; simp [encC, headB])
        obtain ⟨b1, b2, b3⟩ := R9_.2.2 c0.se.toNat _ c0.se.toNat_lt a1 a3
        obtain ⟨d1, d2, d3⟩ := R14_.2.2 c0.sq.toNat _ c0.sq.toNat_lt b1 b3
        obtain ⟨g1, g2, g3, g4, g5, g6, g7⟩ := hf0
        obtain ⟨p1, p2⟩ := enc_3 (c := c0) (by rw [← a2]; omega)
        rw [p2] at d3
        obtain ⟨z0a, z0b, z0c⟩ := R44_.2.2.2 c0.ky ([]) (by omega) d1 (by first | (rw [d3]; done) | (rw [d3]; simp))
        exact ⟨z0a, by rw [hm.2.1, p1]; simp only [blank]; rw [a2, u64_inj b2, u64_inj d2, z0b], z0c⟩
      · intro q w; have z := (R4_.2.1 (R9_.2.1 (R14_.2.1 (R44_.2.2.1 q).1).1).1); rw [w] at z; exact absurd z.2 (by simp)
     ·
      refine WS.op rfl rfl (WS.nil [(0, _), (1, _), (31, _), (69, _)] rfl ?_)
      refine WC.condF rfl ?_
      refine WC.run ?_
      refine WS.eqlN (a := (m4_).toNat) (b := 8) rfl rfl rfl (fun e71 => ?_) (fun e71 => ?_)
      ·
       refine WS.op rfl rfl (WS.nil [(0, _), (1, _), (31, _), (69, _)] rfl ?_)
       refine WC.condT rfl ?_
       refine WC.draw M15.bare [] rfl ?_
       intro rb46 h47 M48
       refine WS.op rfl rfl (WS.op rfl rfl (WS.op rfl rfl (WS.op rfl rfl (WS.op rfl rfl (WS.op rfl rfl (WS.op rfl rfl ?_))))))
       refine WS.call rfl rfl rfl (r_text_ran (s := s14_) (b := b14_) (k := 3) ((M48.focus 1 rfl).focus 1 rfl) rfl (by omega) rfl) ?_
       rintro _ h49 ⟨s49_, b49_, m49_, rfl, M50, R49_⟩
       have R49_l := R49_.1
       have R49_t := R49_.2.1
       replace M50 : Mem _ _ ([(r, _)] :: [(p, _)] :: L) _ := M50
       refine WS.nil [] rfl ?_
       refine ⟨[], res_nil, ?_⟩
       refine ⟨(⟨m4_, m9_, m14_, m49_, ([]), ([]), ([]), ([]), 0, 0, 0, []⟩ : Cmd), _, _, _, _, rfl, .nil, ?_, ?_, ?_, ((M50.bare)).nils⟩
       · unfold Fit; dsimp only; exact ⟨by first | omega | simp, by first | omega | simp, by first | omega | simp, by first | omega | simp, by first | omega | simp, by simp, by intro p hp; cases hp⟩
       · intro c0 hm hf0 he
         obtain ⟨a1, a2, a3⟩ := R4_.2.2 c0.op (vb c0.se.toNat ++ (vb c0.sq.toNat ++ bodyB c0)) rfl (by rw [he]; simp [encC, headB])
         obtain ⟨b1, b2, b3⟩ := R9_.2.2 c0.se.toNat _ c0.se.toNat_lt a1 a3
         obtain ⟨d1, d2, d3⟩ := R14_.2.2 c0.sq.toNat _ c0.sq.toNat_lt b1 b3
         obtain ⟨g1, g2, g3, g4, g5, g6, g7⟩ := hf0
         obtain ⟨p1, p2⟩ := enc_3 (c := c0) (by rw [← a2]; omega)
         rw [p2] at d3
         obtain ⟨z0a, z0b, z0c⟩ := R49_.2.2.2 c0.ky ([]) (by omega) d1 (by first | (rw [d3]; done) | (rw [d3]; simp))
         exact ⟨z0a, by rw [hm.2.1, p1]; simp only [blank]; rw [a2, u64_inj b2, u64_inj d2, z0b], z0c⟩
       · intro q w; have z := (R4_.2.1 (R9_.2.1 (R14_.2.1 (R49_.2.2.1 q).1).1).1); rw [w] at z; exact absurd z.2 (by simp)
      ·
       refine WS.op rfl rfl (WS.nil [(0, _), (1, _), (31, _), (69, _)] rfl ?_)
       refine WC.condF rfl ?_
       refine WC.seq ?_
       refine WC.run ?_
       refine WS.eqlN (a := (m4_).toNat) (b := 4) rfl rfl rfl (fun e81 => ?_) (fun e81 => ?_)
       ·
        refine WS.op rfl rfl (WS.nil [(0, _), (1, _), (31, _), (80, _)] rfl ?_)
        refine WC.condT rfl ?_
        refine WC.seq ?_
        refine WC.draw M15.bare [] rfl ?_
        intro rb51 h52 M53
        refine WS.op rfl rfl (WS.op rfl rfl (WS.op rfl rfl (WS.op rfl rfl (WS.op rfl rfl (WS.op rfl rfl (WS.op rfl rfl ?_))))))
        refine WS.call rfl rfl rfl (r_text_ran (s := s14_) (b := b14_) (k := 3) ((M53.focus 1 rfl).focus 1 rfl) rfl (by omega) rfl) ?_
        rintro _ h54 ⟨s54_, b54_, m54_, rfl, M55, R54_⟩
        have R54_l := R54_.1
        have R54_t := R54_.2.1
        replace M55 : Mem _ _ ([(r, _)] :: [(p, _)] :: L) _ := M55
        refine WS.nil [(0, _), (1, _)] rfl ?_
        refine WC.seq ?_
        refine WC.draw M55.bare [] rfl ?_
        intro rb56 h57 M58
        refine WS.op rfl rfl (WS.op rfl rfl (WS.op rfl rfl (WS.op rfl rfl (WS.op rfl rfl (WS.op rfl rfl (WS.op rfl rfl ?_))))))
        refine WS.call rfl rfl rfl (r_text_ran (s := s54_) (b := b54_) (k := 5) ((M58.focus 1 rfl).focus 1 rfl) rfl (by omega) rfl) ?_
        rintro _ h59 ⟨s59_, b59_, m59_, rfl, M60, R59_⟩
        have R59_l := R59_.1
        have R59_t := R59_.2.1
        replace M60 : Mem _ _ ([(r, _)] :: [(p, _)] :: L) _ := M60
        refine WS.nil [(0, _), (1, _)] rfl ?_
        refine WC.draw M60.bare [] rfl ?_
        intro rb61 h62 M63
        refine WS.op rfl rfl (WS.op rfl rfl (WS.op rfl rfl (WS.op rfl rfl (WS.op rfl rfl (WS.op rfl rfl (WS.op rfl rfl ?_))))))
        refine WS.call rfl rfl rfl (r_text_ran (s := s59_) (b := b59_) (k := 4) ((M63.focus 1 rfl).focus 1 rfl) rfl (by omega) rfl) ?_
        rintro _ h64 ⟨s64_, b64_, m64_, rfl, M65, R64_⟩
        have R64_l := R64_.1
        have R64_t := R64_.2.1
        replace M65 : Mem _ _ ([(r, _)] :: [(p, _)] :: L) _ := M65
        refine WS.nil [] rfl ?_
        refine ⟨[], res_nil, ?_⟩
        refine ⟨(⟨m4_, m9_, m14_, m54_, m64_, m59_, ([]), ([]), 0, 0, 0, []⟩ : Cmd), _, _, _, _, rfl, .nil, ?_, ?_, ?_, ((M65.bare)).nils⟩
        · unfold Fit; dsimp only; exact ⟨by first | omega | simp, by first | omega | simp, by first | omega | simp, by first | omega | simp, by first | omega | simp, by simp, by intro p hp; cases hp⟩
        · intro c0 hm hf0 he
          obtain ⟨a1, a2, a3⟩ := R4_.2.2 c0.op (vb c0.se.toNat ++ (vb c0.sq.toNat ++ bodyB c0)) rfl (by rw [he]; simp [encC, headB])
          obtain ⟨b1, b2, b3⟩ := R9_.2.2 c0.se.toNat _ c0.se.toNat_lt a1 a3
          obtain ⟨d1, d2, d3⟩ := R14_.2.2 c0.sq.toNat _ c0.sq.toNat_lt b1 b3
          obtain ⟨g1, g2, g3, g4, g5, g6, g7⟩ := hf0
          obtain ⟨p1, p2⟩ := enc_4 (c := c0) (by rw [← a2]; omega)
          rw [p2] at d3
          obtain ⟨z0a, z0b, z0c⟩ := R54_.2.2.2 c0.ky (sb c0.ex ++ sb c0.va) (by omega) d1 (by first | (rw [d3]; done) | (rw [d3]; simp))
          obtain ⟨z1a, z1b, z1c⟩ := R59_.2.2.2 c0.ex (sb c0.va) (by omega) z0a (by first | (rw [z0c]; done) | (rw [z0c]; simp))
          obtain ⟨z2a, z2b, z2c⟩ := R64_.2.2.2 c0.va ([]) (by omega) z1a (by first | (rw [z1c]; done) | (rw [z1c]; simp))
          exact ⟨z2a, by rw [hm.2.1, p1]; simp only [blank]; rw [a2, u64_inj b2, u64_inj d2, z0b, z1b, z2b], z2c⟩
        · intro q w; have z := (R4_.2.1 (R9_.2.1 (R14_.2.1 (R54_.2.2.1 (R59_.2.2.1 (R64_.2.2.1 q).1).1).1).1).1); rw [w] at z; exact absurd z.2 (by simp)
       ·
        refine WS.op rfl rfl (WS.nil [(0, _), (1, _), (31, _), (80, _)] rfl ?_)
        refine WC.condF rfl ?_
        refine WC.seq ?_
        refine WC.run ?_
        refine WS.eqlN (a := (m4_).toNat) (b := 5) rfl rfl rfl (fun e107 => ?_) (fun e107 => ?_)
        ·
         refine WS.op rfl rfl (WS.nil [(0, _), (1, _), (31, _), (106, _)] rfl ?_)
         refine WC.condT rfl ?_
         refine WC.run ?_
         refine WS.op rfl rfl (WS.op rfl rfl ?_)
         refine WS.call rfl rfl rfl (partsR_ran (s := s14_) (b := b14_) (c := (⟨m4_, m9_, m14_, ([]), ([]), ([]), ([]), ([]), 0, 0, 0, []⟩ : Cmd)) ((M15.bare.focus 1 rfl).focus 1 rfl) (by omega)) ?_
         rintro _ h66 ⟨sp, bp, V68, ps, S69, rfl, O70, hpl, hpf, hpA, hpB, M67⟩
         obtain ⟨P71, rfl⟩ := O70.shape
         replace M67 : Mem _ _ (S69 :: [(r, _)] :: [(p, _)] :: L) _ := M67
         refine WS.nil [] rfl ?_
         refine ⟨[], res_nil, ?_⟩
         refine ⟨(⟨m4_, m9_, m14_, ([]), ([]), ([]), ([]), ([]), 0, 0, 0, ps⟩ : Cmd), _, _, _, _, rfl, O70, ?_, ?_, ?_, M67⟩
         · unfold Fit; dsimp only; exact ⟨by first | omega | simp, by first | omega | simp, by first | omega | simp, by first | omega | simp, by first | omega | simp, (by omega), hpf⟩
         · intro c0 hm hf0 he
           obtain ⟨a1, a2, a3⟩ := R4_.2.2 c0.op (vb c0.se.toNat ++ (vb c0.sq.toNat ++ bodyB c0)) rfl (by rw [he]; simp [encC, headB])
           obtain ⟨b1, b2, b3⟩ := R9_.2.2 c0.se.toNat _ c0.se.toNat_lt a1 a3
           obtain ⟨d1, d2, d3⟩ := R14_.2.2 c0.sq.toNat _ c0.sq.toNat_lt b1 b3
           obtain ⟨g1, g2, g3, g4, g5, g6, g7⟩ := hf0
           obtain ⟨p1, p2⟩ := enc_5 (c := c0) (by rw [← a2]; omega)
           rw [p2] at d3
           obtain ⟨za, zb, zc⟩ := hpA c0.ps [] ⟨(hm.2.2.1 (by rw [← a2]; omega)).2, g7, fun q hq hne => by rcases hm.2.2.2 q hq with w | w; exact absurd w hne; exact w.2, d1, by first | (rw [d3]; done) | (rw [d3]; simp)⟩
           exact ⟨za, by rw [hm.2.1, p1]; simp only [blank]; rw [a2, u64_inj b2, u64_inj d2, zb], zc⟩
         · intro q w; have z := (R4_.2.1 (R9_.2.1 (R14_.2.1 (hpB q)).1).1); rw [w] at z; exact absurd z.2 (by simp)
        ·
         refine WS.op rfl rfl (WS.nil [(0, _), (1, _), (31, _), (106, _)] rfl ?_)
         refine WC.condF rfl ?_
         refine WC.seq ?_
         refine WC.run ?_
         refine WS.eqlN (a := (m4_).toNat) (b := 7) rfl rfl rfl (fun e112 => ?_) (fun e112 => ?_)
         ·
          refine WS.op rfl rfl (WS.nil [(0, _), (1, _), (31, _), (111, _)] rfl ?_)
          refine WC.condT rfl ?_
          refine WC.draw M15.bare [] rfl ?_
          intro rb72 h73 M74
          refine WS.op rfl rfl (WS.op rfl rfl (WS.op rfl rfl (WS.op rfl rfl (WS.op rfl rfl (WS.op rfl rfl (WS.op rfl rfl ?_))))))
          refine WS.call rfl rfl rfl (r_number_ran (s := s14_) (b := b14_) (k := 9) (old := 0) ((M74.focus 1 rfl).focus 1 rfl) rfl (by omega)) ?_
          rintro _ h75 ⟨s75_, b75_, m75_, rfl, M76, R75_⟩
          have R75_l := R75_.1
          replace M76 : Mem _ _ ([(r, _)] :: [(p, _)] :: L) _ := M76
          refine WS.nil [] rfl ?_
          refine ⟨[], res_nil, ?_⟩
          refine ⟨(⟨m4_, m9_, m14_, ([]), ([]), ([]), ([]), ([]), 0, m75_, 0, []⟩ : Cmd), _, _, _, _, rfl, .nil, ?_, ?_, ?_, ((M76.bare)).nils⟩
          · unfold Fit; dsimp only; exact ⟨by first | omega | simp, by first | omega | simp, by first | omega | simp, by first | omega | simp, by first | omega | simp, by simp, by intro p hp; cases hp⟩
          · intro c0 hm hf0 he
            obtain ⟨a1, a2, a3⟩ := R4_.2.2 c0.op (vb c0.se.toNat ++ (vb c0.sq.toNat ++ bodyB c0)) rfl (by rw [he]; simp [encC, headB])
            obtain ⟨b1, b2, b3⟩ := R9_.2.2 c0.se.toNat _ c0.se.toNat_lt a1 a3
            obtain ⟨d1, d2, d3⟩ := R14_.2.2 c0.sq.toNat _ c0.sq.toNat_lt b1 b3
            obtain ⟨g1, g2, g3, g4, g5, g6, g7⟩ := hf0
            obtain ⟨p1, p2⟩ := enc_7 (c := c0) (by rw [← a2]; omega)
            rw [p2] at d3
            obtain ⟨z0a, z0b, z0c⟩ := R75_.2.2 c0.le.toNat ([]) (UInt64.toNat_lt _) d1 (by first | (rw [d3]; done) | (rw [d3]; simp))
            exact ⟨z0a, by rw [hm.2.1, p1]; simp only [blank]; rw [a2, u64_inj b2, u64_inj d2, u64_inj z0b], z0c⟩
          · intro q w; have z := (R4_.2.1 (R9_.2.1 (R14_.2.1 (R75_.2.1 q).1).1).1); rw [w] at z; exact absurd z.2 (by simp)
         ·
          refine WS.op rfl rfl (WS.nil [(0, _), (1, _), (31, _), (111, _)] rfl ?_)
          refine WC.condF rfl ?_
          refine WC.seq ?_
          refine WC.run ?_
          refine WS.eqlN (a := (m4_).toNat) (b := 9) rfl rfl rfl (fun e122 => ?_) (fun e122 => ?_)
          ·
           refine WS.op rfl rfl (WS.nil [(0, _), (1, _), (121, _)] rfl ?_)
           refine WC.condT rfl ?_
           refine WC.seq ?_
           refine WC.draw M15.bare [] rfl ?_
           intro rb77 h78 M79
           refine WS.op rfl rfl (WS.op rfl rfl (WS.op rfl rfl (WS.op rfl rfl (WS.op rfl rfl (WS.op rfl rfl (WS.op rfl rfl ?_))))))
           refine WS.call rfl rfl rfl (r_text_ran (s := s14_) (b := b14_) (k := 6) ((M79.focus 1 rfl).focus 1 rfl) rfl (by omega) rfl) ?_
           rintro _ h80 ⟨s80_, b80_, m80_, rfl, M81, R80_⟩
           have R80_l := R80_.1
           have R80_t := R80_.2.1
           replace M81 : Mem _ _ ([(r, _)] :: [(p, _)] :: L) _ := M81
           refine WS.nil [(0, _), (1, _)] rfl ?_
           refine WC.seq ?_
           refine WC.draw M81.bare [] rfl ?_
           intro rb82 h83 M84
           refine WS.op rfl rfl (WS.op rfl rfl (WS.op rfl rfl (WS.op rfl rfl (WS.op rfl rfl (WS.op rfl rfl (WS.op rfl rfl ?_))))))
           refine WS.call rfl rfl rfl (r_text_ran (s := s80_) (b := b80_) (k := 7) ((M84.focus 1 rfl).focus 1 rfl) rfl (by omega) rfl) ?_
           rintro _ h85 ⟨s85_, b85_, m85_, rfl, M86, R85_⟩
           have R85_l := R85_.1
           have R85_t := R85_.2.1
           replace M86 : Mem _ _ ([(r, _)] :: [(p, _)] :: L) _ := M86
           refine WS.nil [(0, _), (1, _)] rfl ?_
           refine WC.draw M86.bare [] rfl ?_
           intro rb87 h88 M89
           refine WS.op rfl rfl (WS.op rfl rfl (WS.op rfl rfl (WS.op rfl rfl (WS.op rfl rfl (WS.op rfl rfl (WS.op rfl rfl ?_))))))
           refine WS.call rfl rfl rfl (r_byte_ran (s := s85_) (b := b85_) (k := 8) (old := 0) ((M89.focus 1 rfl).focus 1 rfl) rfl (by omega)) ?_
           rintro _ h90 ⟨s90_, b90_, m90_, rfl, M91, R90_⟩
           have R90_l := R90_.1
           replace M91 : Mem _ _ ([(r, _)] :: [(p, _)] :: L) _ := M91
           refine WS.nil [] rfl ?_
           refine ⟨[], res_nil, ?_⟩
           refine ⟨(⟨m4_, m9_, m14_, ([]), ([]), ([]), m80_, m85_, m90_, 0, 0, []⟩ : Cmd), _, _, _, _, rfl, .nil, ?_, ?_, ?_, ((M91.bare)).nils⟩
           · unfold Fit; dsimp only; exact ⟨by first | omega | simp, by first | omega | simp, by first | omega | simp, by first | omega | simp, by first | omega | simp, by simp, by intro p hp; cases hp⟩
           · intro c0 hm hf0 he
             obtain ⟨a1, a2, a3⟩ := R4_.2.2 c0.op (vb c0.se.toNat ++ (vb c0.sq.toNat ++ bodyB c0)) rfl (by rw [he]; simp [encC, headB])
             obtain ⟨b1, b2, b3⟩ := R9_.2.2 c0.se.toNat _ c0.se.toNat_lt a1 a3
             obtain ⟨d1, d2, d3⟩ := R14_.2.2 c0.sq.toNat _ c0.sq.toNat_lt b1 b3
             obtain ⟨g1, g2, g3, g4, g5, g6, g7⟩ := hf0
             obtain ⟨p1, p2⟩ := enc_9 (c := c0) (by rw [← a2]; omega)
             rw [p2] at d3
             obtain ⟨z0a, z0b, z0c⟩ := R80_.2.2.2 c0.fr (sb c0.to ++ [c0.li]) (by omega) d1 (by first | (rw [d3]; done) | (rw [d3]; simp))
             obtain ⟨z1a, z1b, z1c⟩ := R85_.2.2.2 c0.to ([c0.li]) (by omega) z0a (by first | (rw [z0c]; done) | (rw [z0c]; simp))
             obtain ⟨z2a, z2b, z2c⟩ := R90_.2.2 c0.li ([]) z1a (by first | (rw [z1c]; done) | (rw [z1c]; simp))
             exact ⟨z2a, by rw [hm.2.1, p1]; simp only [blank]; rw [a2, u64_inj b2, u64_inj d2, z0b, z1b, z2b], z2c⟩
           · intro q w; have z := (R4_.2.1 (R9_.2.1 (R14_.2.1 (R80_.2.2.1 (R85_.2.2.1 (R90_.2.1 q).1).1).1).1).1); rw [w] at z; exact absurd z.2 (by simp)
          ·
           refine WS.op rfl rfl (WS.nil [(0, _), (1, _), (121, _)] rfl ?_)
           refine WC.condF rfl ?_
           refine WC.skip ?_
           refine ⟨[], res_nil, ?_⟩
           refine ⟨(⟨m4_, m9_, m14_, ([]), ([]), ([]), ([]), ([]), 0, 0, 0, []⟩ : Cmd), _, _, _, _, rfl, .nil, ?_, ?_, ?_, ((M15.bare)).nils⟩
           · unfold Fit; dsimp only; exact ⟨by first | omega | simp, by first | omega | simp, by first | omega | simp, by first | omega | simp, by first | omega | simp, by simp, by intro p hp; cases hp⟩
           · intro c0 hm hf0 he
             obtain ⟨a1, a2, a3⟩ := R4_.2.2 c0.op (vb c0.se.toNat ++ (vb c0.sq.toNat ++ bodyB c0)) rfl (by rw [he]; simp [encC, headB])
             obtain ⟨b1, b2, b3⟩ := R9_.2.2 c0.se.toNat _ c0.se.toNat_lt a1 a3
             obtain ⟨d1, d2, d3⟩ := R14_.2.2 c0.sq.toNat _ c0.sq.toNat_lt b1 b3
             obtain ⟨g1, g2, g3, g4, g5, g6, g7⟩ := hf0
             obtain ⟨p1, p2⟩ := enc_0 (c := c0) (by rw [← a2]; omega)
             rw [p2] at d3
             exact ⟨d1, by rw [hm.2.1, p1]; simp only [blank]; rw [a2, u64_inj b2, u64_inj d2], d3⟩
           · intro q w; have z := (R4_.2.1 (R9_.2.1 (R14_.2.1 q).1).1); rw [w] at z; exact absurd z.2 (by simp)
def zeroC : Cmd := ⟨0, 0, 0, [], [], [], [], [], 0, 0, 0, []⟩
def RdC (s : List UInt8) (c : Cmd) (ok : Bool) : Prop := (ok = true → MayC c ∧ encC c = s) ∧ (ok = false → c = zeroC ∧ ∀ c0, MayC c0 → Fit c0 → encC c0 ≠ s)
theorem rdC_yes {s : List UInt8} {c : Cmd} (h : (if mayB c then encC c else []) = s) (hs : s ≠ []) : RdC s c true := by
  refine ⟨fun _ => ?_, fun q => nomatch q⟩
  by_cases q : mayB c = true
  · rw [if_pos q] at h; exact ⟨of_decide_eq_true q, h⟩
  · rw [if_neg q] at h; exact absurd h.symm hs
theorem rdC_no {s : List UInt8} (h : ∀ c0, MayC c0 → Fit c0 → encC c0 ≠ s) : RdC s zeroC false := ⟨fun q => (nomatch q), fun _ => ⟨rfl, h⟩⟩
theorem fit0 : Fit zeroC := by unfold Fit zeroC FitP; simp
set_option maxRecDepth 8000 in
theorem Read_ran (W : Mem h h [] []) {s : List UInt8} (hl : s.length ≤ 300000) : Cll tab0 32 [.string (bs s)] h (fun v h2 => ∃ c V S ok, KPart.Own V (Cmd.ps c) S ∧ v = .tuple #[c.val V, .bool ok] ∧ Fit c ∧ (ok = true → (if mayB c then encC c else []) = s) ∧ (ok = false → c = zeroC) ∧ RdC s c ok ∧ Mem h h2 [S] []) := by
  refine Cll.code rfl rfl ?_
  refine WC.env [(0, _)] rfl ?_
  refine WC.seq ?_
  refine WC.run ?_
  refine WS.new W rfl ?_
  intro p1 h2 M3
  refine WS.op rfl rfl (WS.nil [(0, _), (2, _)] rfl ?_)
  refine WC.seq ?_
  refine WC.run ?_
  refine WS.new M3 rfl ?_
  intro p4 h5 M6
  refine WS.nil [(0, _), (2, _), (4, _)] rfl ?_
  refine WC.seq ?_
  refine WC.run ?_
  refine WS.op rfl rfl (WS.opV (.agg #[(.string (bs s)), (.bool false)]) rfl rfl rfl ?_)
  refine WS.box M6 [_, _] rfl rfl rfl rfl ?_
  intro p7 h8 M9
  refine WS.op rfl rfl (WS.nil [(0, _), (2, _), (4, _), (5, _)] rfl ?_)
  refine WC.seq ?_
  refine WC.run ?_
  refine WS.op rfl rfl (WS.op rfl rfl ?_)
  refine WS.call rfl rfl rfl (walkR_ran (s := s) ((M9.focus 1 rfl).focus 1 rfl) (by omega)) ?_
  rintro _ h10 ⟨cr, V12, S13, sr, br, rfl, O14, hF, hP, hNe, M11⟩
  obtain ⟨P15, rfl⟩ := O14.shape
  replace M11 : Mem _ _ (S13 :: [(p7, _)] :: [(p4, _)] :: [(p1, _)] :: []) _ := M11
  refine WS.nil [(0, _), (2, _), (4, _), (5, _)] rfl ?_
  refine WC.seq ?_
  refine WC.seq ?_
  refine WC.run ?_
  refine WS.op rfl rfl ?_
  refine WS.call rfl rfl rfl (well_ran M11.here (s := sr) (b := br) (M11.at 1 rfl)) ?_
  rintro _ h16 ⟨rfl, N17⟩
  have M18 := M11.trans N17
  cases hb1 : (decide (br = false ∧ sr = []))
  ·
   refine WS.opV (.bool true) rfl rfl rfl (WS.op rfl rfl (WS.off rfl (WS.offC rfl (WS.off rfl (WS.off rfl (WS.op rfl rfl (WS.nil [(2, _), (4, _), (20, _)] rfl ?_)))))))
   refine WC.condT rfl ?_
   refine WC.seq ?_
   refine WC.run ?_
   refine WS.opV (.agg #[(.int .u8 (0 : Int)), (.int .u64 (0 : Int)), (.int .u64 (0 : Int)), (.string (bs ([]))), (.string (bs ([]))), (.string (bs ([]))), (.string (bs ([]))), (.string (bs ([]))), (.int .u8 (0 : Int)), (.int .u64 (0 : Int)), (.int .u64 (0 : Int)), (.slice none 0 0)]) rfl rfl rfl ?_
   refine WS.st1 (M18.focus 3 rfl) [_, _, _, _, _, _, _, _, _, _, _, _] [_, _, _, _, _, _, _, _, _, _, _, _] rfl rfl rfl rfl rfl (Nat.le_of_ble_eq_true rfl) (Nat.le_of_ble_eq_true rfl) rfl rfl ?_
   intro h19 M20
   replace M20 : Mem _ _ ([(p1, _)] :: S13 :: [(p7, _)] :: [(p4, _)] :: []) _ := M20
   refine WS.op rfl rfl (WS.nil [(2, _), (3, _)] rfl ?_)
   refine WC.ret ?_
   refine ⟨[_, _], (res_cellN [_, _, _, _, _, _, _, _, _, _, _, _] rfl (M20.at 0 rfl) (Nat.le_of_ble_eq_true rfl) rfl (res_tmp rfl res_nil)), ?_⟩
   exact ⟨zeroC, .slice none 0 0, [], false, .nil, rfl, fit0, (fun q => nomatch q), fun _ => rfl, rdC_no (fun c0 hm hf he2 => by have he := he2.symm; obtain ⟨w1, w2, w3⟩ := hP c0 hm hf he; first | exact absurd (show br = false ∧ sr = [] from ⟨w1, w3⟩) (of_decide_eq_false (by assumption)) | (subst w2; exact e19 (by rw [if_pos (show mayB _ = true from decide_eq_true hm)]; exact he.symm))), (M20.bare.take 0).nils⟩
  ·
   refine WS.opV (.bool false) rfl rfl rfl (WS.op rfl rfl (WS.op rfl (op_lds [_, _, _, _, _, _, _, _, _, _, _, _] (M18.at 2 rfl) rfl (Nat.le_of_ble_eq_true rfl) rfl) ?_))
   refine WS.call rfl rfl rfl (Write_ran M18.here (c := cr) (Row.Own.sl O14 (Mem.owni M18 0 rfl)) (by exact hF)) ?_
   rintro _ h21 ⟨rfl, N22⟩
   have M23 := M18.trans N22
   refine WS.op rfl rfl ?_
   refine WS.sneq (l := (if mayB cr then encC cr else [])) (m := s) rfl rfl rfl (fun e19 => ?_) (fun e19 => ?_)
   ·
    refine WS.op rfl rfl (WS.nil [(2, _), (4, _), (20, _)] rfl ?_)
    refine WC.condT rfl ?_
    refine WC.seq ?_
    refine WC.run ?_
    refine WS.opV (.agg #[(.int .u8 (0 : Int)), (.int .u64 (0 : Int)), (.int .u64 (0 : Int)), (.string (bs ([]))), (.string (bs ([]))), (.string (bs ([]))), (.string (bs ([]))), (.string (bs ([]))), (.int .u8 (0 : Int)), (.int .u64 (0 : Int)), (.int .u64 (0 : Int)), (.slice none 0 0)]) rfl rfl rfl ?_
    refine WS.st1 (M23.focus 3 rfl) [_, _, _, _, _, _, _, _, _, _, _, _] [_, _, _, _, _, _, _, _, _, _, _, _] rfl rfl rfl rfl rfl (Nat.le_of_ble_eq_true rfl) (Nat.le_of_ble_eq_true rfl) rfl rfl ?_
    intro h24 M25
    replace M25 : Mem _ _ ([(p1, _)] :: S13 :: [(p7, _)] :: [(p4, _)] :: []) _ := M25
    refine WS.op rfl rfl (WS.nil [(2, _), (3, _)] rfl ?_)
    refine WC.ret ?_
    refine ⟨[_, _], (res_cellN [_, _, _, _, _, _, _, _, _, _, _, _] rfl (M25.at 0 rfl) (Nat.le_of_ble_eq_true rfl) rfl (res_tmp rfl res_nil)), ?_⟩
    exact ⟨zeroC, .slice none 0 0, [], false, .nil, rfl, fit0, (fun q => nomatch q), fun _ => rfl, rdC_no (fun c0 hm hf he2 => by have he := he2.symm; obtain ⟨w1, w2, w3⟩ := hP c0 hm hf he; first | exact absurd (show br = false ∧ sr = [] from ⟨w1, w3⟩) (of_decide_eq_false (by assumption)) | (subst w2; exact e19 (by rw [if_pos (show mayB _ = true from decide_eq_true hm)]; exact he.symm))), (M25.bare.take 0).nils⟩
   ·
    refine WS.op rfl rfl (WS.nil [(2, _), (4, _), (20, _)] rfl ?_)
    refine WC.condF rfl ?_
    refine WC.skip ?_
    refine WC.seq ?_
    refine WC.run ?_
    refine WS.op rfl (op_lds [_, _, _, _, _, _, _, _, _, _, _, _] (M23.at 2 rfl) rfl (Nat.le_of_ble_eq_true rfl) rfl) ?_
    refine WS.st1 (M23.focus 3 rfl) [_, _, _, _, _, _, _, _, _, _, _, _] [_, _, _, _, _, _, _, _, _, _, _, _] rfl rfl rfl rfl rfl (Nat.le_of_ble_eq_true rfl) (Nat.le_of_ble_eq_true rfl) rfl rfl ?_
    intro h26 M27
    replace M27 : Mem _ _ ([(p1, _)] :: S13 :: [(p7, _)] :: [(p4, _)] :: []) _ := M27
    refine WS.op rfl rfl (WS.nil [(2, _), (3, _)] rfl ?_)
    refine WC.ret ?_
    refine ⟨[_, _], (res_cellN [_, _, _, _, _, _, _, _, _, _, _, _] rfl (M27.at 0 rfl) (Nat.le_of_ble_eq_true rfl) rfl (res_tmp rfl res_nil)), ?_⟩
    exact ⟨cr, _, _, true, O14, rfl, hF, fun _ => by assumption, (fun q => nomatch q), rdC_yes (by assumption) (hNe (of_decide_eq_true (p := br = false ∧ sr = []) (by assumption)).1), ((M27.bare.focus 1 rfl).take 1)⟩
end Go.Proofs.Yteikngjiaboeaaa.Wt
namespace Go.Proofs.Yteikngjiaboeaaa.Wt
open Go Go.Proofs.Yteikngjiaboeaaa.Am Go.Proofs.Yteikngjiaboeaaa.IrAll
set_option linter.unusedVariables false
set_option linter.unusedSimpArgs false
def zeroO2 : Oper := ⟨0, 0, 0, 0, 0, 0, 0, 0, 0, 0, 0, 0, 0, 0, 0, 0⟩
def tokd (o : Oper) (c0 c1 c2 c3 c4 c5 c6 c7 : UInt8) : Oper := ⟨o.op, o.sl, c0, c1, c2, c3, c4, c5, c6, c7, o.ro, o.ks, o.bt, o.ra, o.bu, o.nd⟩
def zcells : List Value := [.int .u8 0, .int .u8 0, .int .u8 0, .int .u8 0, .int .u8 0, .int .u8 0, .int .u8 0, .int .u8 0, .int .u8 0, .int .u8 0, .int .u8 0, .int .i64 0, .int .i64 0, .int .i64 0, .int .i64 0, .int .u8 0]
variable {h base : H} {L : List Seg} {R : List Nat}
theorem r_token_ran {r q : Nat} {s : List UInt8} {b : Bool} {o : Oper} (M : Mem base h ([(r, ⟨[.string (bs s), .bool b], 0, false⟩)] :: [(q, ⟨Oper.cells o, 0, false⟩)] :: L) []) (hl : s.length ≤ 300000) :
    Cll tab0 105 [.pointer (some ⟨r, 0, none⟩), .pointer (some ⟨q, 2, none⟩)] h (fun v h2 => ∃ c0 c1 c2 c3 c4 c5 c6 c7 s' b', v = .tuple #[] ∧ Mem base h2 ([(r, ⟨[.string (bs s'), .bool b'], 0, false⟩)] :: [(q, ⟨Oper.cells (tokd o c0 c1 c2 c3 c4 c5 c6 c7), 0, false⟩)] :: L) [] ∧ s'.length ≤ s.length ∧ (b' = false → b = false) ∧ (∀ k0 k1 k2 k3 k4 k5 k6 k7 t, b = false → s = [k0, k1, k2, k3, k4, k5, k6, k7] ++ t → b' = false ∧ (c0 = k0 ∧ c1 = k1 ∧ c2 = k2 ∧ c3 = k3 ∧ c4 = k4 ∧ c5 = k5 ∧ c6 = k6 ∧ c7 = k7) ∧ s' = t)) := by
  refine Cll.code rfl rfl ?_
  refine WC.env [(0, _), (1, _)] rfl ?_
  refine WC.seq ?_
  refine WC.run ?_
  refine WS.op rfl rfl (WS.op rfl rfl (WS.op rfl rfl (WS.op rfl (op_ld (M.at 0 rfl) rfl rfl) (WS.op rfl rfl (WS.nil [(0, _), (1, _), (4, _)] rfl ?_)))))
  refine WC.seq ?_
  refine WC.run ?_
  refine WS.op rfl rfl ?_
  refine WS.call rfl rfl rfl (r_skip_ran (s := s) (b := b) (n := 8) (ok := true) (M.focus 0 rfl) (by omega)) ?_
  rintro _ h1 ⟨s', b', rfl, M2, q1, q2, q3⟩
  replace M2 : Mem _ _ ([(r, _)] :: [(q, _)] :: L) _ := M2
  refine WS.nil [(1, _), (4, _), (10, _)] rfl ?_
  cases hb1 : (!b')
  ·
   refine WC.condF rfl ?_
   refine WC.skip ?_
   refine ⟨[], res_nil, ?_⟩
   have g0 : b' = true := by simpa using hb1
   exact ⟨o.t0, o.t1, o.t2, o.t3, o.t4, o.t5, o.t6, o.t7, _, _, rfl, M2, by rw [q2 g0]; exact Nat.le_refl _, (fun q => by rw [g0] at q; exact absurd q (by decide)), fun k0 k1 k2 k3 k4 k5 k6 k7 t u e => by have := q3 u rfl (by subst e; simp); rw [g0] at this; exact absurd this (by decide)⟩
  ·
   refine WC.condT rfl ?_
   refine WC.run ?_
   refine WS.op rfl rfl (WS.op rfl rfl ?_)
   obtain ⟨g1, g2, g3, g4⟩ := q1 (by simpa using hb1)
   refine WS.opV (.slice (some ⟨q, 2, none⟩) 8 17) rfl rfl rfl (WS.op rfl rfl ?_)
   obtain ⟨c3, c4, c5, c6, c7, c8, c9, c10, h8_11⟩ := take8 (l := s) (by first | omega | (simp only [List.length_drop, List.length_take, List.length_append, List.length_cons, List.length_nil, List.length_singleton]; omega) | (simp only [List.length_drop, List.length_take, List.length_append, List.length_cons, List.length_nil, List.length_singleton] at *; omega))
   refine WS.cpyS (l := s) (M2.focus 1 rfl) [(.int .u8 (((c3).toNat : Nat) : Int)), (.int .u8 (((c4).toNat : Nat) : Int)), (.int .u8 (((c5).toNat : Nat) : Int)), (.int .u8 (((c6).toNat : Nat) : Int)), (.int .u8 (((c7).toNat : Nat) : Int)), (.int .u8 (((c8).toNat : Nat) : Int)), (.int .u8 (((c9).toNat : Nat) : Int)), (.int .u8 (((c10).toNat : Nat) : Int))] [_, _, _, _, _, _, _, _, _, _, _, _, _, _, _, _] rfl rfl rfl rfl (by rw [h8_11]; rfl) rfl (Nat.le_of_ble_eq_true rfl) (Nat.le_of_ble_eq_true rfl) rfl rfl ?_
   intro h12 M13
   replace M13 : Mem _ _ ([(q, _)] :: [(r, _)] :: L) _ := M13
   refine WS.nil [] rfl ?_
   refine ⟨[], res_nil, ?_⟩
   exact ⟨c3, c4, c5, c6, c7, c8, c9, c10, s', b', rfl, ((M13.focus 0 rfl).focus 1 rfl), by rw [g4, List.length_drop]; omega, fun _ => g1, fun k0 k1 k2 k3 k4 k5 k6 k7 t u e => by have q8 := h8_11; rw [e] at q8; simp at q8; obtain ⟨w0, w1, w2, w3, w4, w5, w6, w7⟩ := q8; exact ⟨by simpa using hb1, ⟨w0.symm, w1.symm, w2.symm, w3.symm, w4.symm, w5.symm, w6.symm, w7.symm⟩, by rw [g4, e]; rfl⟩⟩
def iz (m : UInt64) : Int64 := Int64.ofInt ((min m.toNat 4294967296 : Nat) : Int)
theorem cvZ {m : UInt64} : Value.int .i64 (IntKind.i64.wrap ((min m.toNat 4294967296 : Nat) : Int)) = .int .i64 (iz m).toInt := by
  have e : (iz m).toInt = ((min m.toNat 4294967296 : Nat) : Int) := by
    unfold iz; rw [Int64.toInt_ofInt_of_le (by omega) (by omega)]
  rw [e]; exact cv_i64 (by omega)
theorem encO_cons (o : Oper) : encO o = o.op :: (encO o).tail := by
  by_cases h1 : o.op.toNat = 1
  · rw [encO_1 h1]; rfl
  by_cases h2 : o.op.toNat = 2
  · rw [encO_2 h2]; rfl
  by_cases h3 : o.op.toNat = 3
  · rw [encO_3 h3]; rfl
  by_cases h4 : o.op.toNat = 4
  · rw [encO_4 h4]; rfl
  unfold encO; rw [if_neg h1, if_neg h2, if_neg h3, if_neg h4]; rfl
theorem iz_nu {x : Int64} (h : Sm x.toInt) : iz (nu x) = x := by
  have h1 := nu_nat h
  unfold Sm at h
  unfold iz
  rw [show ((min (nu x).toNat 4294967296 : Nat) : Int) = x.toInt by omega]; exact Int64.ofInt_toInt x
theorem plainO_1 {o : Oper} (h : o.op.toNat = 1) : plainO o = ⟨o.op, o.sl, 0, 0, 0, 0, 0, 0, 0, 0, 0, o.ks, o.bt, o.ra, o.bu, 0⟩ := by
  rw [show o.op = 1 from u8_inj h]; unfold plainO; rw [if_pos h]
theorem plainO_2 {o : Oper} (h : o.op.toNat = 2) : plainO o = ⟨o.op, o.sl, o.t0, o.t1, o.t2, o.t3, o.t4, o.t5, o.t6, o.t7, o.ro, 0, 0, 0, 0, 0⟩ := by
  rw [show o.op = 2 from u8_inj h]; unfold plainO; rw [if_neg (show ¬ o.op.toNat = 1 by omega), if_pos h]
theorem plainO_3 {o : Oper} (h : o.op.toNat = 3) : plainO o = ⟨o.op, 0, o.t0, o.t1, o.t2, o.t3, o.t4, o.t5, o.t6, o.t7, 0, 0, 0, 0, 0, 0⟩ := by
  rw [show o.op = 3 from u8_inj h]; unfold plainO; rw [if_neg (show ¬ o.op.toNat = 1 by omega), if_neg (show ¬ o.op.toNat = 2 by omega), if_pos h]
theorem plainO_4 {o : Oper} (h : o.op.toNat = 4) : plainO o = ⟨o.op, o.sl, 0, 0, 0, 0, 0, 0, 0, 0, 0, 0, 0, 0, 0, 0⟩ := by
  rw [show o.op = 4 from u8_inj h]; unfold plainO; rw [if_neg (show ¬ o.op.toNat = 1 by omega), if_neg (show ¬ o.op.toNat = 2 by omega), if_neg (show ¬ o.op.toNat = 3 by omega), if_pos h]
theorem plainO_5 {o : Oper} (h : 4 < o.op.toNat) : plainO o = ⟨o.op, 0, 0, 0, 0, 0, 0, 0, 0, 0, 0, 0, 0, 0, 0, o.nd⟩ := by
  unfold plainO; rw [if_neg (by omega), if_neg (by omega), if_neg (by omega), if_neg (by omega)]
set_option maxRecDepth 8000 in
theorem walkOR_ran {r p : Nat} {s : List UInt8} (M : Mem base h ([(r, ⟨[.string (bs s), .bool false], 0, false⟩)] :: [(p, ⟨zcells, 0, false⟩)] :: L) []) (hl : s.length ≤ 300000) :
    Cll tab0 54 [.iface 98 (.pointer (some ⟨r, 0, none⟩)), .pointer (some ⟨p, 0, none⟩)] h (fun v h2 => ∃ o s' b', v = .tuple #[] ∧ Mem base h2 ([(r, ⟨[.string (bs s'), .bool b'], 0, false⟩)] :: [(p, ⟨Oper.cells o, 0, false⟩)] :: L) [] ∧ (∀ o0, MayO o0 → s = encO o0 → b' = false ∧ o = o0 ∧ s' = []) ∧ (b' = false → s ≠ [])) := by
  refine Cll.code rfl rfl ?_
  refine WC.env [(0, _), (1, _)] rfl ?_
  refine WC.seq ?_
  refine WC.draw M [] rfl ?_
  intro rb1 h2 M3
  refine WS.op rfl rfl (WS.op rfl rfl (WS.op rfl rfl (WS.op rfl rfl (WS.op rfl rfl (WS.op rfl rfl (WS.op rfl rfl ?_))))))
  refine WS.call rfl rfl rfl (r_byte_ran (s := s) (b := false) (k := 0) (old := 0) ((M3.focus 1 rfl).focus 1 rfl) rfl (by omega)) ?_
  rintro _ h4 ⟨s4_, b4_, m4_, rfl, M5, R4_⟩
  have R4_l := R4_.1
  replace M5 : Mem _ _ ([(r, _)] :: [(p, _)] :: L) _ := M5
  refine WS.nil [(0, _), (1, _)] rfl ?_
  refine WC.seq ?_
  refine WC.run ?_
  refine WS.op rfl rfl (WS.op rfl rfl (WS.op rfl rfl (WS.op rfl (op_ld (M5.bare.at 1 rfl) rfl rfl) (WS.nil [(0, _), (1, _), (18, _)] rfl ?_))))
  refine WC.block ?_
  refine WC.seq ?_
  refine WC.run ?_
  refine WS.eqlN (a := (m4_).toNat) (b := 1) rfl rfl rfl (fun e20 => ?_) (fun e20 => ?_)
  ·
   refine WS.op rfl rfl (WS.nil [(0, _), (1, _), (18, _), (19, _)] rfl ?_)
   refine WC.condT rfl ?_
   refine WC.seq ?_
   refine WC.draw M5.bare [] rfl ?_
   intro rb6 h7 M8
   refine WS.op rfl rfl (WS.op rfl rfl (WS.op rfl rfl (WS.op rfl rfl (WS.op rfl rfl (WS.op rfl rfl (WS.op rfl rfl ?_))))))
   refine WS.call rfl rfl rfl (r_byte_ran (s := s4_) (b := b4_) (k := 1) (old := 0) ((M8.focus 1 rfl).focus 1 rfl) rfl (by omega)) ?_
   rintro _ h9 ⟨s9_, b9_, m9_, rfl, M10, R9_⟩
   have R9_l := R9_.1
   replace M10 : Mem _ _ ([(r, _)] :: [(p, _)] :: L) _ := M10
   refine WS.nil [(0, _), (1, _)] rfl ?_
   refine WC.seq ?_
   refine WC.draw M10.bare [12] rfl ?_
   intro rb11 h12 M13
   refine WS.op rfl rfl (WS.op rfl rfl (WS.op rfl rfl (WS.op rfl rfl (WS.op rfl rfl (WS.op rfl rfl (WS.op rfl rfl (WS.op rfl rfl (WS.op rfl rfl (WS.op rfl rfl ?_)))))))))
   refine WS.op rfl rfl (WS.op rfl rfl (WS.op rfl rfl ?_))
   refine WS.bslA M13 [_, _, _, _] 0 rfl rfl rfl rfl rfl ?_
   intro h15 M16
   refine WS.op rfl rfl (WS.nil [(0, _), (41, _), (42, _), (43, _)] rfl ?_)
   refine WC.block ?_
   refine WC.unroll [(0, _), (41, _), (42, _), (43, _)] rfl ?_
   refine WC.seq ?_
   refine WC.run ?_
   refine WS.opV (.bool true) rfl rfl rfl (WS.nil [(0, _), (41, _), (42, _), (43, _), (44, _)] rfl ?_)
   refine WC.seq ?_
   refine WC.condT rfl ?_
   refine WC.skip ?_
   refine WC.seq ?_
   refine WC.block ?_
   refine WC.seq ?_
   refine WC.run ?_
   refine WS.op rfl rfl (WS.op rfl (op_ld (M16.bare.at 0 rfl) rfl rfl) (WS.op rfl rfl (WS.nil [(0, _), (5, _), (41, _), (42, _), (43, _)] rfl ?_)))
   refine WC.seq ?_
   refine WC.run ?_
   refine WS.op rfl rfl (WS.op rfl rfl (WS.op rfl (op_ld (M16.bare.at 2 rfl) rfl rfl) (WS.opV (.int .u64 0) rfl rfl rfl ?_)))
   refine WS.new M16.bare rfl ?_
   intro p17 h18 M19
   refine WS.st1 (M19.focus 0 rfl) [_] [_] rfl rfl rfl rfl rfl (Nat.le_of_ble_eq_true rfl) (Nat.le_of_ble_eq_true rfl) rfl rfl ?_
   intro h20 M21
   replace M21 : Mem _ _ ([(p17, _)] :: [((rb11 + 12), _)] :: [(r, _)] :: [(p, _)] :: L) _ := M21
   refine WS.nil [(0, _), (5, _), (6, _), (41, _), (42, _), (43, _)] rfl ?_
   refine WC.seq ?_
   refine WC.run ?_
   refine WS.op rfl rfl ?_
   refine WS.call rfl rfl rfl (r_number_ran (s := s9_) (b := b9_) (k := 0) (old := 0) ((M21.focus 0 rfl).focus 2 rfl) rfl (by omega)) ?_
   rintro _ h22 ⟨s22_, b22_, m22_, rfl, M23, R22_⟩
   have R22_l := R22_.1
   replace M23 : Mem _ _ ([(r, _)] :: [(p17, _)] :: [((rb11 + 12), _)] :: [(p, _)] :: L) _ := M23
   refine WS.nil [(0, _), (5, _), (6, _), (41, _), (42, _), (43, _)] rfl ?_
   refine WC.run ?_
   refine WS.op rfl rfl (WS.op rfl (op_ld (M23.at 1 rfl) rfl rfl) (WS.opV (.int .u64 (((min ((m22_).toNat) 4294967296) : Nat) : Int)) rfl rfl (mm_min (a := (m22_).toNat) (b := 4294967296)) (WS.opV (.int .i64 (iz m22_).toInt) rfl rfl (cvZ (m := m22_)) (WS.op rfl rfl ?_))))
   refine WS.st1 (M23.focus 3 rfl) [_] [_, _, _, _, _, _, _, _, _, _, _, _, _, _, _, _] rfl rfl rfl rfl rfl (Nat.le_of_ble_eq_true rfl) (Nat.le_of_ble_eq_true rfl) rfl rfl ?_
   intro h24 M25
   replace M25 : Mem _ _ ([(p, _)] :: [(r, _)] :: [(p17, _)] :: [((rb11 + 12), _)] :: L) _ := M25
   refine WS.nil [(0, _), (41, _), (42, _), (43, _)] rfl ?_
   refine WC.run ?_
   refine WS.opV (.int .i64 1) rfl rfl rfl (WS.op rfl rfl (WS.nil [(0, _), (41, _), (42, _), (43, _)] rfl ?_))
   refine WC.unroll [(0, _), (41, _), (42, _), (43, _)] rfl ?_
   refine WC.seq ?_
   refine WC.run ?_
   refine WS.opV (.bool true) rfl rfl rfl (WS.nil [(0, _), (41, _), (42, _), (43, _), (44, _)] rfl ?_)
   refine WC.seq ?_
   refine WC.condT rfl ?_
   refine WC.skip ?_
   refine WC.seq ?_
   refine WC.block ?_
   refine WC.seq ?_
   refine WC.run ?_
   refine WS.op rfl rfl (WS.op rfl (op_ld (M25.at 3 rfl) rfl rfl) (WS.op rfl rfl (WS.nil [(0, _), (5, _), (41, _), (42, _), (43, _)] rfl ?_)))
   refine WC.seq ?_
   refine WC.run ?_
   refine WS.op rfl rfl (WS.op rfl rfl (WS.op rfl (op_ld (M25.at 0 rfl) rfl rfl) (WS.opV (.int .u64 0) rfl rfl rfl ?_)))
   refine WS.new M25 rfl ?_
   intro p26 h27 M28
   refine WS.st1 (M28.focus 0 rfl) [_] [_] rfl rfl rfl rfl rfl (Nat.le_of_ble_eq_true rfl) (Nat.le_of_ble_eq_true rfl) rfl rfl ?_
   intro h29 M30
   replace M30 : Mem _ _ ([(p26, _)] :: [(p, _)] :: [(r, _)] :: [(p17, _)] :: [((rb11 + 12), _)] :: L) _ := M30
   refine WS.nil [(0, _), (5, _), (6, _), (41, _), (42, _), (43, _)] rfl ?_
   refine WC.seq ?_
   refine WC.run ?_
   refine WS.op rfl rfl ?_
   refine WS.call rfl rfl rfl (r_number_ran (s := s22_) (b := b22_) (k := 0) (old := 0) ((M30.focus 0 rfl).focus 2 rfl) rfl (by omega)) ?_
   rintro _ h31 ⟨s31_, b31_, m31_, rfl, M32, R31_⟩
   have R31_l := R31_.1
   replace M32 : Mem _ _ ([(r, _)] :: [(p26, _)] :: [(p, _)] :: [(p17, _)] :: [((rb11 + 12), _)] :: L) _ := M32
   refine WS.nil [(0, _), (5, _), (6, _), (41, _), (42, _), (43, _)] rfl ?_
   refine WC.run ?_
   refine WS.op rfl rfl (WS.op rfl (op_ld (M32.at 1 rfl) rfl rfl) (WS.opV (.int .u64 (((min ((m31_).toNat) 4294967296) : Nat) : Int)) rfl rfl (mm_min (a := (m31_).toNat) (b := 4294967296)) (WS.opV (.int .i64 (iz m31_).toInt) rfl rfl (cvZ (m := m31_)) (WS.op rfl rfl ?_))))
   refine WS.st1 (M32.focus 2 rfl) [_] [_, _, _, _, _, _, _, _, _, _, _, _, _, _, _, _] rfl rfl rfl rfl rfl (Nat.le_of_ble_eq_true rfl) (Nat.le_of_ble_eq_true rfl) rfl rfl ?_
   intro h33 M34
   replace M34 : Mem _ _ ([(p, _)] :: [(r, _)] :: [(p26, _)] :: [(p17, _)] :: [((rb11 + 12), _)] :: L) _ := M34
   refine WS.nil [(0, _), (41, _), (42, _), (43, _)] rfl ?_
   refine WC.run ?_
   refine WS.opV (.int .i64 2) rfl rfl rfl (WS.op rfl rfl (WS.nil [(0, _), (41, _), (42, _), (43, _)] rfl ?_))
   refine WC.unroll [(0, _), (41, _), (42, _), (43, _)] rfl ?_
   refine WC.seq ?_
   refine WC.run ?_
   refine WS.opV (.bool true) rfl rfl rfl (WS.nil [(0, _), (41, _), (42, _), (43, _), (44, _)] rfl ?_)
   refine WC.seq ?_
   refine WC.condT rfl ?_
   refine WC.skip ?_
   refine WC.seq ?_
   refine WC.block ?_
   refine WC.seq ?_
   refine WC.run ?_
   refine WS.op rfl rfl (WS.op rfl (op_ld (M34.at 4 rfl) rfl rfl) (WS.op rfl rfl (WS.nil [(0, _), (5, _), (41, _), (42, _), (43, _)] rfl ?_)))
   refine WC.seq ?_
   refine WC.run ?_
   refine WS.op rfl rfl (WS.op rfl rfl (WS.op rfl (op_ld (M34.at 0 rfl) rfl rfl) (WS.opV (.int .u64 0) rfl rfl rfl ?_)))
   refine WS.new M34 rfl ?_
   intro p35 h36 M37
   refine WS.st1 (M37.focus 0 rfl) [_] [_] rfl rfl rfl rfl rfl (Nat.le_of_ble_eq_true rfl) (Nat.le_of_ble_eq_true rfl) rfl rfl ?_
   intro h38 M39
   replace M39 : Mem _ _ ([(p35, _)] :: [(p, _)] :: [(r, _)] :: [(p26, _)] :: [(p17, _)] :: [((rb11 + 12), _)] :: L) _ := M39
   refine WS.nil [(0, _), (5, _), (6, _), (41, _), (42, _), (43, _)] rfl ?_
   refine WC.seq ?_
   refine WC.run ?_
   refine WS.op rfl rfl ?_
   refine WS.call rfl rfl rfl (r_number_ran (s := s31_) (b := b31_) (k := 0) (old := 0) ((M39.focus 0 rfl).focus 2 rfl) rfl (by omega)) ?_
   rintro _ h40 ⟨s40_, b40_, m40_, rfl, M41, R40_⟩
   have R40_l := R40_.1
   replace M41 : Mem _ _ ([(r, _)] :: [(p35, _)] :: [(p, _)] :: [(p26, _)] :: [(p17, _)] :: [((rb11 + 12), _)] :: L) _ := M41
   refine WS.nil [(0, _), (5, _), (6, _), (41, _), (42, _), (43, _)] rfl ?_
   refine WC.run ?_
   refine WS.op rfl rfl (WS.op rfl (op_ld (M41.at 1 rfl) rfl rfl) (WS.opV (.int .u64 (((min ((m40_).toNat) 4294967296) : Nat) : Int)) rfl rfl (mm_min (a := (m40_).toNat) (b := 4294967296)) (WS.opV (.int .i64 (iz m40_).toInt) rfl rfl (cvZ (m := m40_)) (WS.op rfl rfl ?_))))
   refine WS.st1 (M41.focus 2 rfl) [_] [_, _, _, _, _, _, _, _, _, _, _, _, _, _, _, _] rfl rfl rfl rfl rfl (Nat.le_of_ble_eq_true rfl) (Nat.le_of_ble_eq_true rfl) rfl rfl ?_
   intro h42 M43
   replace M43 : Mem _ _ ([(p, _)] :: [(r, _)] :: [(p35, _)] :: [(p26, _)] :: [(p17, _)] :: [((rb11 + 12), _)] :: L) _ := M43
   refine WS.nil [(0, _), (41, _), (42, _), (43, _)] rfl ?_
   refine WC.run ?_
   refine WS.opV (.int .i64 3) rfl rfl rfl (WS.op rfl rfl (WS.nil [(0, _), (41, _), (42, _), (43, _)] rfl ?_))
   refine WC.unroll [(0, _), (41, _), (42, _), (43, _)] rfl ?_
   refine WC.seq ?_
   refine WC.run ?_
   refine WS.opV (.bool true) rfl rfl rfl (WS.nil [(0, _), (41, _), (42, _), (43, _), (44, _)] rfl ?_)
   refine WC.seq ?_
   refine WC.condT rfl ?_
   refine WC.skip ?_
   refine WC.seq ?_
   refine WC.block ?_
   refine WC.seq ?_
   refine WC.run ?_
   refine WS.op rfl rfl (WS.op rfl (op_ld (M43.at 5 rfl) rfl rfl) (WS.op rfl rfl (WS.nil [(0, _), (5, _), (41, _), (42, _), (43, _)] rfl ?_)))
   refine WC.seq ?_
   refine WC.run ?_
   refine WS.op rfl rfl (WS.op rfl rfl (WS.op rfl (op_ld (M43.at 0 rfl) rfl rfl) (WS.opV (.int .u64 0) rfl rfl rfl ?_)))
   refine WS.new M43 rfl ?_
   intro p44 h45 M46
   refine WS.st1 (M46.focus 0 rfl) [_] [_] rfl rfl rfl rfl rfl (Nat.le_of_ble_eq_true rfl) (Nat.le_of_ble_eq_true rfl) rfl rfl ?_
   intro h47 M48
   replace M48 : Mem _ _ ([(p44, _)] :: [(p, _)] :: [(r, _)] :: [(p35, _)] :: [(p26, _)] :: [(p17, _)] :: [((rb11 + 12), _)] :: L) _ := M48
   refine WS.nil [(0, _), (5, _), (6, _), (41, _), (42, _), (43, _)] rfl ?_
   refine WC.seq ?_
   refine WC.run ?_
   refine WS.op rfl rfl ?_
   refine WS.call rfl rfl rfl (r_number_ran (s := s40_) (b := b40_) (k := 0) (old := 0) ((M48.focus 0 rfl).focus 2 rfl) rfl (by omega)) ?_
   rintro _ h49 ⟨s49_, b49_, m49_, rfl, M50, R49_⟩
   have R49_l := R49_.1
   replace M50 : Mem _ _ ([(r, _)] :: [(p44, _)] :: [(p, _)] :: [(p35, _)] :: [(p26, _)] :: [(p17, _)] :: [((rb11 + 12), _)] :: L) _ := M50
   refine WS.nil [(0, _), (5, _), (6, _), (41, _), (42, _), (43, _)] rfl ?_
   refine WC.run ?_
   refine WS.op rfl rfl (WS.op rfl (op_ld (M50.at 1 rfl) rfl rfl) (WS.opV (.int .u64 (((min ((m49_).toNat) 4294967296) : Nat) : Int)) rfl rfl (mm_min (a := (m49_).toNat) (b := 4294967296)) (WS.opV (.int .i64 (iz m49_).toInt) rfl rfl (cvZ (m := m49_)) (WS.op rfl rfl ?_))))
   refine WS.st1 (M50.focus 2 rfl) [_] [_, _, _, _, _, _, _, _, _, _, _, _, _, _, _, _] rfl rfl rfl rfl rfl (Nat.le_of_ble_eq_true rfl) (Nat.le_of_ble_eq_true rfl) rfl rfl ?_
   intro h51 M52
   replace M52 : Mem _ _ ([(p, _)] :: [(r, _)] :: [(p44, _)] :: [(p35, _)] :: [(p26, _)] :: [(p17, _)] :: [((rb11 + 12), _)] :: L) _ := M52
   refine WS.nil [(0, _), (41, _), (42, _), (43, _)] rfl ?_
   refine WC.run ?_
   refine WS.opV (.int .i64 4) rfl rfl rfl (WS.op rfl rfl (WS.nil [(0, _), (41, _), (42, _), (43, _)] rfl ?_))
   refine WC.unroll [(0, _), (41, _), (42, _), (43, _)] rfl ?_
   refine WC.seq ?_
   refine WC.run ?_
   refine WS.opV (.bool false) rfl rfl rfl (WS.nil [(0, _), (41, _), (42, _), (43, _), (44, _)] rfl ?_)
   refine WC.seq ?_
   refine WC.condF rfl ?_
   refine WC.exit ?_
   refine ⟨[], res_nil, ?_⟩
   refine ⟨(⟨m4_, m9_, 0, 0, 0, 0, 0, 0, 0, 0, 0, iz m22_, iz m31_, iz m40_, iz m49_, 0⟩ : Oper), _, _, rfl, ((((((((((((M52.focus 2 rfl).drop).focus 2 rfl).drop).focus 2 rfl).drop).focus 2 rfl).drop).focus 2 rfl).drop).focus 0 rfl).focus 1 rfl), ?_, ?_⟩
   · intro o0 hm he
     obtain ⟨a1, a2, a3⟩ := R4_.2.2 o0.op (encO o0).tail rfl (by rw [he]; exact encO_cons o0)
     have hk : o0.op.toNat = 1 := by rw [← a2]; omega
     have e := plainO_1 hk
     rw [← hm.2.1] at e
     rw [encO_1 hk] at a3
     obtain ⟨z0a, z0b, z0c⟩ := R9_.2.2 o0.sl (vb (nu o0.ks).toNat ++ (vb (nu o0.bt).toNat ++ (vb (nu o0.ra).toNat ++ (vb (nu o0.bu).toNat)))) a1 (by first | (rw [a3]; done) | (rw [a3]; simp [Oper.tok]; done))
     obtain ⟨z1a, z1b, z1c⟩ := R22_.2.2 (nu o0.ks).toNat (vb (nu o0.bt).toNat ++ (vb (nu o0.ra).toNat ++ (vb (nu o0.bu).toNat))) (UInt64.toNat_lt _) z0a (by first | (rw [z0c]; done) | (rw [z0c]; simp [Oper.tok]; done))
     obtain ⟨z2a, z2b, z2c⟩ := R31_.2.2 (nu o0.bt).toNat (vb (nu o0.ra).toNat ++ (vb (nu o0.bu).toNat)) (UInt64.toNat_lt _) z1a (by first | (rw [z1c]; done) | (rw [z1c]; simp [Oper.tok]; done))
     obtain ⟨z3a, z3b, z3c⟩ := R40_.2.2 (nu o0.ra).toNat (vb (nu o0.bu).toNat) (UInt64.toNat_lt _) z2a (by first | (rw [z2c]; done) | (rw [z2c]; simp [Oper.tok]; done))
     obtain ⟨z4a, z4b, z4c⟩ := R49_.2.2 (nu o0.bu).toNat ([]) (UInt64.toNat_lt _) z3a (by first | (rw [z3c]; done) | (rw [z3c]; simp [Oper.tok]; done))
     exact ⟨z4a, by rw [e]; rw [a2, z0b, u64_inj z1b, iz_nu (x := o0.ks) hm.2.2.2.2.2.1, u64_inj z2b, iz_nu (x := o0.bt) hm.2.2.2.2.2.2.1, u64_inj z3b, iz_nu (x := o0.ra) hm.2.2.2.2.2.2.2.1, u64_inj z4b, iz_nu (x := o0.bu) hm.2.2.2.2.2.2.2.2], z4c⟩
   · intro q w; have z := (R4_.2.1 (R9_.2.1 (R22_.2.1 (R31_.2.1 (R40_.2.1 (R49_.2.1 q).1).1).1).1).1); rw [w] at z; exact absurd z.2 (by simp)
  ·
   refine WS.op rfl rfl (WS.nil [(0, _), (1, _), (18, _), (19, _)] rfl ?_)
   refine WC.condF rfl ?_
   refine WC.seq ?_
   refine WC.run ?_
   refine WS.eqlN (a := (m4_).toNat) (b := 2) rfl rfl rfl (fun e60 => ?_) (fun e60 => ?_)
   ·
    refine WS.op rfl rfl (WS.nil [(0, _), (1, _), (18, _), (59, _)] rfl ?_)
    refine WC.condT rfl ?_
    refine WC.seq ?_
    refine WC.draw M5.bare [] rfl ?_
    intro rb53 h54 M55
    refine WS.op rfl rfl (WS.op rfl rfl (WS.op rfl rfl (WS.op rfl rfl (WS.op rfl rfl (WS.op rfl rfl (WS.op rfl rfl ?_))))))
    refine WS.call rfl rfl rfl (r_byte_ran (s := s4_) (b := b4_) (k := 1) (old := 0) ((M55.focus 1 rfl).focus 1 rfl) rfl (by omega)) ?_
    rintro _ h56 ⟨s56_, b56_, m56_, rfl, M57, R56_⟩
    have R56_l := R56_.1
    replace M57 : Mem _ _ ([(r, _)] :: [(p, _)] :: L) _ := M57
    refine WS.nil [(0, _), (1, _)] rfl ?_
    refine WC.seq ?_
    refine WC.draw M57.bare [] rfl ?_
    intro rb58 h59 M60
    refine WS.op rfl rfl (WS.op rfl rfl (WS.op rfl rfl (WS.op rfl rfl (WS.op rfl rfl (WS.op rfl rfl (WS.op rfl rfl ?_))))))
    refine WS.call rfl rfl rfl (r_token_ran (s := s56_) (b := b56_) (o := (⟨m4_, m56_, 0, 0, 0, 0, 0, 0, 0, 0, 0, 0, 0, 0, 0, 0⟩ : Oper)) ((M60.focus 1 rfl).focus 1 rfl) (by omega)) ?_
    rintro _ h61 ⟨kh61_0, kh61_1, kh61_2, kh61_3, kh61_4, kh61_5, kh61_6, kh61_7, sh61_, bh61_, rfl, M62, Rh61_⟩
    have Rh61_l := Rh61_.1
    replace M62 : Mem _ _ ([(r, _)] :: [(p, _)] :: L) _ := M62
    refine WS.nil [(0, _), (1, _)] rfl ?_
    refine WC.draw M62.bare [] rfl ?_
    intro rb63 h64 M65
    refine WS.op rfl rfl (WS.op rfl rfl (WS.op rfl rfl (WS.op rfl rfl (WS.op rfl rfl (WS.op rfl rfl (WS.op rfl rfl ?_))))))
    refine WS.call rfl rfl rfl (r_byte_ran (s := sh61_) (b := bh61_) (k := 10) (old := 0) ((M65.focus 1 rfl).focus 1 rfl) rfl (by omega)) ?_
    rintro _ h66 ⟨s66_, b66_, m66_, rfl, M67, R66_⟩
    have R66_l := R66_.1
    replace M67 : Mem _ _ ([(r, _)] :: [(p, _)] :: L) _ := M67
    refine WS.nil [] rfl ?_
    refine ⟨[], res_nil, ?_⟩
    refine ⟨(⟨m4_, m56_, kh61_0, kh61_1, kh61_2, kh61_3, kh61_4, kh61_5, kh61_6, kh61_7, m66_, 0, 0, 0, 0, 0⟩ : Oper), _, _, rfl, (M67.bare), ?_, ?_⟩
    · intro o0 hm he
      obtain ⟨a1, a2, a3⟩ := R4_.2.2 o0.op (encO o0).tail rfl (by rw [he]; exact encO_cons o0)
      have hk : o0.op.toNat = 2 := by rw [← a2]; omega
      have e := plainO_2 hk
      rw [← hm.2.1] at e
      rw [encO_2 hk] at a3
      obtain ⟨z0a, z0b, z0c⟩ := R56_.2.2 o0.sl (o0.tok ++ ([o0.ro])) a1 (by first | (rw [a3]; done) | (rw [a3]; simp [Oper.tok]; done))
      obtain ⟨z1a, ⟨w0, w1, w2, w3, w4, w5, w6, w7⟩, z1c⟩ := Rh61_.2.2 o0.t0 o0.t1 o0.t2 o0.t3 o0.t4 o0.t5 o0.t6 o0.t7 ([o0.ro]) z0a (by first | (rw [z0c]; done) | (rw [z0c]; simp [Oper.tok]; done))
      obtain ⟨z2a, z2b, z2c⟩ := R66_.2.2 o0.ro ([]) z1a (by first | (rw [z1c]; done) | (rw [z1c]; simp [Oper.tok]; done))
      exact ⟨z2a, by rw [e]; rw [a2, z0b, w0, w1, w2, w3, w4, w5, w6, w7, z2b], z2c⟩
    · intro q w; have z := (R4_.2.1 (R56_.2.1 (Rh61_.2.1 (R66_.2.1 q).1)).1); rw [w] at z; exact absurd z.2 (by simp)
   ·
    refine WS.op rfl rfl (WS.nil [(0, _), (1, _), (18, _), (59, _)] rfl ?_)
    refine WC.condF rfl ?_
    refine WC.seq ?_
    refine WC.run ?_
    refine WS.eqlN (a := (m4_).toNat) (b := 3) rfl rfl rfl (fun e86 => ?_) (fun e86 => ?_)
    ·
     refine WS.op rfl rfl (WS.nil [(0, _), (1, _), (18, _), (85, _)] rfl ?_)
     refine WC.condT rfl ?_
     refine WC.draw M5.bare [] rfl ?_
     intro rb68 h69 M70
     refine WS.op rfl rfl (WS.op rfl rfl (WS.op rfl rfl (WS.op rfl rfl (WS.op rfl rfl (WS.op rfl rfl (WS.op rfl rfl ?_))))))
     refine WS.call rfl rfl rfl (r_token_ran (s := s4_) (b := b4_) (o := (⟨m4_, 0, 0, 0, 0, 0, 0, 0, 0, 0, 0, 0, 0, 0, 0, 0⟩ : Oper)) ((M70.focus 1 rfl).focus 1 rfl) (by omega)) ?_
     rintro _ h71 ⟨kh71_0, kh71_1, kh71_2, kh71_3, kh71_4, kh71_5, kh71_6, kh71_7, sh71_, bh71_, rfl, M72, Rh71_⟩
     have Rh71_l := Rh71_.1
     replace M72 : Mem _ _ ([(r, _)] :: [(p, _)] :: L) _ := M72
     refine WS.nil [] rfl ?_
     refine ⟨[], res_nil, ?_⟩
     refine ⟨(⟨m4_, 0, kh71_0, kh71_1, kh71_2, kh71_3, kh71_4, kh71_5, kh71_6, kh71_7, 0, 0, 0, 0, 0, 0⟩ : Oper), _, _, rfl, (M72.bare), ?_, ?_⟩
     · intro o0 hm he
       obtain ⟨a1, a2, a3⟩ := R4_.2.2 o0.op (encO o0).tail rfl (by rw [he]; exact encO_cons o0)
       have hk : o0.op.toNat = 3 := by rw [← a2]; omega
       have e := plainO_3 hk
       rw [← hm.2.1] at e
       rw [encO_3 hk] at a3
       obtain ⟨z0a, ⟨w0, w1, w2, w3, w4, w5, w6, w7⟩, z0c⟩ := Rh71_.2.2 o0.t0 o0.t1 o0.t2 o0.t3 o0.t4 o0.t5 o0.t6 o0.t7 ([]) a1 (by first | (rw [a3]; done) | (rw [a3]; simp [Oper.tok]; done))
       exact ⟨z0a, by rw [e]; rw [a2, w0, w1, w2, w3, w4, w5, w6, w7], z0c⟩
     · intro q w; have z := (R4_.2.1 (Rh71_.2.1 q)); rw [w] at z; exact absurd z.2 (by simp)
    ·
     refine WS.op rfl rfl (WS.nil [(0, _), (1, _), (18, _), (85, _)] rfl ?_)
     refine WC.condF rfl ?_
     refine WC.seq ?_
     refine WC.run ?_
     refine WS.eqlN (a := (m4_).toNat) (b := 4) rfl rfl rfl (fun e96 => ?_) (fun e96 => ?_)
     ·
      refine WS.op rfl rfl (WS.nil [(0, _), (1, _), (18, _), (95, _)] rfl ?_)
      refine WC.condT rfl ?_
      refine WC.draw M5.bare [] rfl ?_
      intro rb73 h74 M75
      refine WS.op rfl rfl (WS.op rfl rfl (WS.op rfl rfl (WS.op rfl rfl (WS.op rfl rfl (WS.op rfl rfl (WS.op rfl rfl ?_))))))
      refine WS.call rfl rfl rfl (r_byte_ran (s := s4_) (b := b4_) (k := 1) (old := 0) ((M75.focus 1 rfl).focus 1 rfl) rfl (by omega)) ?_
      rintro _ h76 ⟨s76_, b76_, m76_, rfl, M77, R76_⟩
      have R76_l := R76_.1
      replace M77 : Mem _ _ ([(r, _)] :: [(p, _)] :: L) _ := M77
      refine WS.nil [] rfl ?_
      refine ⟨[], res_nil, ?_⟩
      refine ⟨(⟨m4_, m76_, 0, 0, 0, 0, 0, 0, 0, 0, 0, 0, 0, 0, 0, 0⟩ : Oper), _, _, rfl, (M77.bare), ?_, ?_⟩
      · intro o0 hm he
        obtain ⟨a1, a2, a3⟩ := R4_.2.2 o0.op (encO o0).tail rfl (by rw [he]; exact encO_cons o0)
        have hk : o0.op.toNat = 4 := by rw [← a2]; omega
        have e := plainO_4 hk
        rw [← hm.2.1] at e
        rw [encO_4 hk] at a3
        obtain ⟨z0a, z0b, z0c⟩ := R76_.2.2 o0.sl ([]) a1 (by first | (rw [a3]; done) | (rw [a3]; simp [Oper.tok]; done))
        exact ⟨z0a, by rw [e]; rw [a2, z0b], z0c⟩
      · intro q w; have z := (R4_.2.1 (R76_.2.1 q).1); rw [w] at z; exact absurd z.2 (by simp)
     ·
      refine WS.op rfl rfl (WS.nil [(0, _), (1, _), (18, _), (95, _)] rfl ?_)
      refine WC.condF rfl ?_
      refine WC.seq ?_
      refine WC.seq ?_
      refine WC.run ?_
      refine WS.eqlN (a := (m4_).toNat) (b := 5) rfl rfl rfl (fun e106 => ?_) (fun e106 => ?_)
      ·
       refine WS.op rfl rfl (WS.nil [(0, _), (1, _), (18, _), (105, _)] rfl ?_)
       refine WC.condT rfl ?_
       refine WC.skip ?_
       refine WC.condT rfl ?_
       refine WC.draw M5.bare [] rfl ?_
       intro rb78 h79 M80
       refine WS.op rfl rfl (WS.op rfl rfl (WS.op rfl rfl (WS.op rfl rfl (WS.op rfl rfl (WS.op rfl rfl (WS.op rfl rfl ?_))))))
       refine WS.call rfl rfl rfl (r_byte_ran (s := s4_) (b := b4_) (k := 15) (old := 0) ((M80.focus 1 rfl).focus 1 rfl) rfl (by omega)) ?_
       rintro _ h81 ⟨s81_, b81_, m81_, rfl, M82, R81_⟩
       have R81_l := R81_.1
       replace M82 : Mem _ _ ([(r, _)] :: [(p, _)] :: L) _ := M82
       refine WS.nil [] rfl ?_
       refine ⟨[], res_nil, ?_⟩
       refine ⟨(⟨m4_, 0, 0, 0, 0, 0, 0, 0, 0, 0, 0, 0, 0, 0, 0, m81_⟩ : Oper), _, _, rfl, (M82.bare), ?_, ?_⟩
       · intro o0 hm he
         obtain ⟨a1, a2, a3⟩ := R4_.2.2 o0.op (encO o0).tail rfl (by rw [he]; exact encO_cons o0)
         have hk : 4 < o0.op.toNat := by rw [← a2]; omega
         have e := plainO_5 hk
         rw [← hm.2.1] at e
         rw [encO_5 hk] at a3
         obtain ⟨z0a, z0b, z0c⟩ := R81_.2.2 o0.nd ([]) a1 (by first | (rw [a3]; done) | (rw [a3]; simp [Oper.tok]; done))
         exact ⟨z0a, by rw [e]; rw [a2, z0b], z0c⟩
       · intro q w; have z := (R4_.2.1 (R81_.2.1 q).1); rw [w] at z; exact absurd z.2 (by simp)
      ·
       refine WS.op rfl rfl (WS.nil [(0, _), (1, _), (18, _), (105, _)] rfl ?_)
       refine WC.condF rfl ?_
       refine WC.seq ?_
       refine WC.run ?_
       refine WS.eqlN (a := (m4_).toNat) (b := 6) rfl rfl rfl (fun e107 => ?_) (fun e107 => ?_)
       ·
        refine WS.op rfl rfl (WS.nil [(0, _), (1, _), (18, _), (105, _)] rfl ?_)
        refine WC.condT rfl ?_
        refine WC.skip ?_
        refine WC.condT rfl ?_
        refine WC.draw M5.bare [] rfl ?_
        intro rb83 h84 M85
        refine WS.op rfl rfl (WS.op rfl rfl (WS.op rfl rfl (WS.op rfl rfl (WS.op rfl rfl (WS.op rfl rfl (WS.op rfl rfl ?_))))))
        refine WS.call rfl rfl rfl (r_byte_ran (s := s4_) (b := b4_) (k := 15) (old := 0) ((M85.focus 1 rfl).focus 1 rfl) rfl (by omega)) ?_
        rintro _ h86 ⟨s86_, b86_, m86_, rfl, M87, R86_⟩
        have R86_l := R86_.1
        replace M87 : Mem _ _ ([(r, _)] :: [(p, _)] :: L) _ := M87
        refine WS.nil [] rfl ?_
        refine ⟨[], res_nil, ?_⟩
        refine ⟨(⟨m4_, 0, 0, 0, 0, 0, 0, 0, 0, 0, 0, 0, 0, 0, 0, m86_⟩ : Oper), _, _, rfl, (M87.bare), ?_, ?_⟩
        · intro o0 hm he
          obtain ⟨a1, a2, a3⟩ := R4_.2.2 o0.op (encO o0).tail rfl (by rw [he]; exact encO_cons o0)
          have hk : 4 < o0.op.toNat := by rw [← a2]; omega
          have e := plainO_5 hk
          rw [← hm.2.1] at e
          rw [encO_5 hk] at a3
          obtain ⟨z0a, z0b, z0c⟩ := R86_.2.2 o0.nd ([]) a1 (by first | (rw [a3]; done) | (rw [a3]; simp [Oper.tok]; done))
          exact ⟨z0a, by rw [e]; rw [a2, z0b], z0c⟩
        · intro q w; have z := (R4_.2.1 (R86_.2.1 q).1); rw [w] at z; exact absurd z.2 (by simp)
       ·
        refine WS.op rfl rfl (WS.nil [(0, _), (1, _), (18, _), (105, _)] rfl ?_)
        refine WC.condF rfl ?_
        refine WC.run ?_
        refine WS.eqlN (a := (m4_).toNat) (b := 7) rfl rfl rfl (fun e108 => ?_) (fun e108 => ?_)
        ·
         refine WS.op rfl rfl (WS.nil [(0, _), (1, _), (105, _)] rfl ?_)
         refine WC.condT rfl ?_
         refine WC.draw M5.bare [] rfl ?_
         intro rb88 h89 M90
         refine WS.op rfl rfl (WS.op rfl rfl (WS.op rfl rfl (WS.op rfl rfl (WS.op rfl rfl (WS.op rfl rfl (WS.op rfl rfl ?_))))))
         refine WS.call rfl rfl rfl (r_byte_ran (s := s4_) (b := b4_) (k := 15) (old := 0) ((M90.focus 1 rfl).focus 1 rfl) rfl (by omega)) ?_
         rintro _ h91 ⟨s91_, b91_, m91_, rfl, M92, R91_⟩
         have R91_l := R91_.1
         replace M92 : Mem _ _ ([(r, _)] :: [(p, _)] :: L) _ := M92
         refine WS.nil [] rfl ?_
         refine ⟨[], res_nil, ?_⟩
         refine ⟨(⟨m4_, 0, 0, 0, 0, 0, 0, 0, 0, 0, 0, 0, 0, 0, 0, m91_⟩ : Oper), _, _, rfl, (M92.bare), ?_, ?_⟩
         · intro o0 hm he
           obtain ⟨a1, a2, a3⟩ := R4_.2.2 o0.op (encO o0).tail rfl (by rw [he]; exact encO_cons o0)
           have hk : 4 < o0.op.toNat := by rw [← a2]; omega
           have e := plainO_5 hk
           rw [← hm.2.1] at e
           rw [encO_5 hk] at a3
           obtain ⟨z0a, z0b, z0c⟩ := R91_.2.2 o0.nd ([]) a1 (by first | (rw [a3]; done) | (rw [a3]; simp [Oper.tok]; done))
           exact ⟨z0a, by rw [e]; rw [a2, z0b], z0c⟩
         · intro q w; have z := (R4_.2.1 (R91_.2.1 q).1); rw [w] at z; exact absurd z.2 (by simp)
        ·
         refine WS.op rfl rfl (WS.nil [(0, _), (1, _), (105, _)] rfl ?_)
         refine WC.condF rfl ?_
         refine WC.skip ?_
         refine ⟨[], res_nil, ?_⟩
         refine ⟨(⟨m4_, 0, 0, 0, 0, 0, 0, 0, 0, 0, 0, 0, 0, 0, 0, 0⟩ : Oper), _, _, rfl, (M5.bare), ?_, ?_⟩
         · intro o0 hm he
           obtain ⟨a1, a2, a3⟩ := R4_.2.2 o0.op (encO o0).tail rfl (by rw [he]; exact encO_cons o0)
           exfalso; have := hm.1; rw [← a2] at this; omega
         · intro q w; have z := (R4_.2.1 q); rw [w] at z; exact absurd z.2 (by simp)
def RdO (s : List UInt8) (o : Oper) (ok : Bool) : Prop := (ok = true → MayO o ∧ encO o = s) ∧ (ok = false → o = zeroO2 ∧ ∀ o0, MayO o0 → encO o0 ≠ s)
theorem rdO_yes {s : List UInt8} {o : Oper} (h : (if mayOB o then encO o else []) = s) (hs : s ≠ []) : RdO s o true := by
  refine ⟨fun _ => ?_, fun q => nomatch q⟩
  by_cases q : mayOB o = true
  · rw [if_pos q] at h; exact ⟨of_decide_eq_true q, h⟩
  · rw [if_neg q] at h; exact absurd h.symm hs
theorem rdO_no {s : List UInt8} (h : ∀ o0, MayO o0 → encO o0 ≠ s) : RdO s zeroO2 false := ⟨fun q => (nomatch q), fun _ => ⟨rfl, h⟩⟩
set_option maxRecDepth 8000 in
theorem ReadO_ran (W : Mem h h [] []) {s : List UInt8} (hl : s.length ≤ 300000) : Cll tab0 33 [.string (bs s)] h (fun v h2 => ∃ o ok, v = .tuple #[.agg (Oper.cells o).toArray, .bool ok] ∧ (ok = true → (if mayOB o then encO o else []) = s) ∧ (ok = false → o = zeroO2) ∧ RdO s o ok ∧ Mem h h2 [] []) := by
  refine Cll.code rfl rfl ?_
  refine WC.env [(0, _)] rfl ?_
  refine WC.seq ?_
  refine WC.run ?_
  refine WS.new W rfl ?_
  intro p1 h2 M3
  refine WS.op rfl rfl (WS.nil [(0, _), (2, _)] rfl ?_)
  refine WC.seq ?_
  refine WC.run ?_
  refine WS.new M3 rfl ?_
  intro p4 h5 M6
  refine WS.nil [(0, _), (2, _), (4, _)] rfl ?_
  refine WC.seq ?_
  refine WC.run ?_
  refine WS.op rfl rfl (WS.opV (.agg #[(.string (bs s)), (.bool false)]) rfl rfl rfl ?_)
  refine WS.box M6 [_, _] rfl rfl rfl rfl ?_
  intro p7 h8 M9
  refine WS.op rfl rfl (WS.nil [(0, _), (2, _), (4, _), (5, _)] rfl ?_)
  refine WC.seq ?_
  refine WC.run ?_
  refine WS.op rfl rfl (WS.op rfl rfl ?_)
  refine WS.call rfl rfl rfl (walkOR_ran (s := s) ((M9.focus 1 rfl).focus 1 rfl) (by omega)) ?_
  rintro _ h10 ⟨ro, so, bo, rfl, M11, hP, hNe⟩
  replace M11 : Mem _ _ ([(p7, _)] :: [(p4, _)] :: [(p1, _)] :: []) _ := M11
  refine WS.nil [(0, _), (2, _), (4, _), (5, _)] rfl ?_
  refine WC.seq ?_
  refine WC.seq ?_
  refine WC.run ?_
  refine WS.op rfl rfl ?_
  refine WS.call rfl rfl rfl (well_ran M11.here (s := so) (b := bo) (M11.at 0 rfl)) ?_
  rintro _ h12 ⟨rfl, N13⟩
  have M14 := M11.trans N13
  cases hb1 : (decide (bo = false ∧ so = []))
  ·
   refine WS.opV (.bool true) rfl rfl rfl (WS.op rfl rfl (WS.off rfl (WS.offC rfl (WS.off rfl (WS.off rfl (WS.op rfl rfl (WS.nil [(2, _), (4, _), (20, _)] rfl ?_)))))))
   refine WC.condT rfl ?_
   refine WC.seq ?_
   refine WC.run ?_
   refine WS.opV (.agg #[(.int .u8 (0 : Int)), (.int .u8 (0 : Int)), (.int .u8 (0 : Int)), (.int .u8 (0 : Int)), (.int .u8 (0 : Int)), (.int .u8 (0 : Int)), (.int .u8 (0 : Int)), (.int .u8 (0 : Int)), (.int .u8 (0 : Int)), (.int .u8 (0 : Int)), (.int .u8 (0 : Int)), (.int .i64 (0 : Int)), (.int .i64 (0 : Int)), (.int .i64 (0 : Int)), (.int .i64 (0 : Int)), (.int .u8 (0 : Int))]) rfl rfl rfl ?_
   refine WS.st1 (M14.focus 2 rfl) [_, _, _, _, _, _, _, _, _, _, _, _, _, _, _, _] [_, _, _, _, _, _, _, _, _, _, _, _, _, _, _, _] rfl rfl rfl rfl rfl (Nat.le_of_ble_eq_true rfl) (Nat.le_of_ble_eq_true rfl) rfl rfl ?_
   intro h15 M16
   replace M16 : Mem _ _ ([(p1, _)] :: [(p7, _)] :: [(p4, _)] :: []) _ := M16
   refine WS.op rfl rfl (WS.nil [(2, _), (3, _)] rfl ?_)
   refine WC.ret ?_
   refine ⟨[_, _], (res_cellN [_, _, _, _, _, _, _, _, _, _, _, _, _, _, _, _] rfl (M16.at 0 rfl) (Nat.le_of_ble_eq_true rfl) rfl (res_tmp rfl res_nil)), ?_⟩
   exact ⟨zeroO2, false, rfl, (fun q => nomatch q), (fun _ => rfl), rdO_no (fun o0 hm he2 => by have he := he2.symm; obtain ⟨w1, w2, w3⟩ := hP o0 hm he; first | exact absurd (show bo = false ∧ so = [] from ⟨w1, w3⟩) (of_decide_eq_false (by assumption)) | (subst w2; exact absurd (show (if mayOB _ then encO _ else []) = s by rw [if_pos (show mayOB _ = true from decide_eq_true hm)]; exact he.symm) (by assumption))), M16.bare.take 0⟩
  ·
   refine WS.opV (.bool false) rfl rfl rfl (WS.op rfl rfl (WS.op rfl (op_lds [_, _, _, _, _, _, _, _, _, _, _, _, _, _, _, _] (M14.at 1 rfl) rfl (Nat.le_of_ble_eq_true rfl) rfl) ?_))
   refine WS.call rfl rfl rfl (WriteO_ran M14.here (o := ro)) ?_
   rintro _ h17 ⟨rfl, N18⟩
   have M19 := M14.trans N18
   refine WS.op rfl rfl ?_
   refine WS.sneq (l := (if mayOB ro then encO ro else [])) (m := s) rfl rfl rfl (fun e19 => ?_) (fun e19 => ?_)
   ·
    refine WS.op rfl rfl (WS.nil [(2, _), (4, _), (20, _)] rfl ?_)
    refine WC.condT rfl ?_
    refine WC.seq ?_
    refine WC.run ?_
    refine WS.opV (.agg #[(.int .u8 (0 : Int)), (.int .u8 (0 : Int)), (.int .u8 (0 : Int)), (.int .u8 (0 : Int)), (.int .u8 (0 : Int)), (.int .u8 (0 : Int)), (.int .u8 (0 : Int)), (.int .u8 (0 : Int)), (.int .u8 (0 : Int)), (.int .u8 (0 : Int)), (.int .u8 (0 : Int)), (.int .i64 (0 : Int)), (.int .i64 (0 : Int)), (.int .i64 (0 : Int)), (.int .i64 (0 : Int)), (.int .u8 (0 : Int))]) rfl rfl rfl ?_
    refine WS.st1 (M19.focus 2 rfl) [_, _, _, _, _, _, _, _, _, _, _, _, _, _, _, _] [_, _, _, _, _, _, _, _, _, _, _, _, _, _, _, _] rfl rfl rfl rfl rfl (Nat.le_of_ble_eq_true rfl) (Nat.le_of_ble_eq_true rfl) rfl rfl ?_
    intro h20 M21
    replace M21 : Mem _ _ ([(p1, _)] :: [(p7, _)] :: [(p4, _)] :: []) _ := M21
    refine WS.op rfl rfl (WS.nil [(2, _), (3, _)] rfl ?_)
    refine WC.ret ?_
    refine ⟨[_, _], (res_cellN [_, _, _, _, _, _, _, _, _, _, _, _, _, _, _, _] rfl (M21.at 0 rfl) (Nat.le_of_ble_eq_true rfl) rfl (res_tmp rfl res_nil)), ?_⟩
    exact ⟨zeroO2, false, rfl, (fun q => nomatch q), (fun _ => rfl), rdO_no (fun o0 hm he2 => by have he := he2.symm; obtain ⟨w1, w2, w3⟩ := hP o0 hm he; first | exact absurd (show bo = false ∧ so = [] from ⟨w1, w3⟩) (of_decide_eq_false (by assumption)) | (subst w2; exact absurd (show (if mayOB _ then encO _ else []) = s by rw [if_pos (show mayOB _ = true from decide_eq_true hm)]; exact he.symm) (by assumption))), M21.bare.take 0⟩
   ·
    refine WS.op rfl rfl (WS.nil [(2, _), (4, _), (20, _)] rfl ?_)
    refine WC.condF rfl ?_
    refine WC.skip ?_
    refine WC.seq ?_
    refine WC.run ?_
    refine WS.op rfl (op_lds [_, _, _, _, _, _, _, _, _, _, _, _, _, _, _, _] (M19.at 1 rfl) rfl (Nat.le_of_ble_eq_true rfl) rfl) ?_
    refine WS.st1 (M19.focus 2 rfl) [_, _, _, _, _, _, _, _, _, _, _, _, _, _, _, _] [_, _, _, _, _, _, _, _, _, _, _, _, _, _, _, _] rfl rfl rfl rfl rfl (Nat.le_of_ble_eq_true rfl) (Nat.le_of_ble_eq_true rfl) rfl rfl ?_
    intro h22 M23
    replace M23 : Mem _ _ ([(p1, _)] :: [(p7, _)] :: [(p4, _)] :: []) _ := M23
    refine WS.op rfl rfl (WS.nil [(2, _), (3, _)] rfl ?_)
    refine WC.ret ?_
    refine ⟨[_, _], (res_cellN [_, _, _, _, _, _, _, _, _, _, _, _, _, _, _, _] rfl (M23.at 0 rfl) (Nat.le_of_ble_eq_true rfl) rfl (res_tmp rfl res_nil)), ?_⟩
    exact ⟨ro, true, rfl, (fun _ => by assumption), (fun q => nomatch q), rdO_yes (by assumption) (hNe (of_decide_eq_true (p := bo = false ∧ so = []) (by assumption)).1), M23.bare.take 0⟩
end Go.Proofs.Yteikngjiaboeaaa.Wt
namespace Go.Proofs.Yteikngjiaboeaaa.Wt
open Go Go.Proofs.Yteikngjiaboeaaa.Am
set_option linter.unusedVariables false
set_option linter.unusedSimpArgs false
section
variable {α : Type} {Good : α → Prop} {enc : α → List UInt8} {z a b c : α} {s bh : List UInt8} {oa ob : Bool}
def Rd (Good : α → Prop) (enc : α → List UInt8) (z : α) (s : List UInt8) (c : α) (ok : Bool) : Prop := (ok = true → Good c ∧ enc c = s) ∧ (ok = false → c = z ∧ ∀ c0, Good c0 → enc c0 ≠ s)
def PF (Good : α → Prop) (enc : α → List UInt8) : Prop := ∀ (a b : α) (x y : List UInt8), Good a → Good b → enc a ++ x = enc b ++ y → a = b ∧ x = y
theorem rd_self (P : PF Good enc) (g : Good c) (A : Rd Good enc z (enc c) a oa) : oa = true ∧ a = c := by
  obtain ⟨a1, a2⟩ := A
  cases oa with
  | true => obtain ⟨r1, e1⟩ := a1 rfl; exact ⟨rfl, (P a c [] [] r1 g (by rw [e1])).1⟩
  | false => exact absurd rfl ((a2 rfl).2 c g)
end
theorem vb_cancel {a b : Nat} (ha : a < 18446744073709551616) (hb : b < 18446744073709551616) {x y : List UInt8} (h : vb a ++ x = vb b ++ y) : a = b ∧ x = y := by
  have g1 := getV_vb ha x
  rw [h, getV_vb hb y] at g1
  have e : a = b := by simp at g1; exact g1.1.symm
  subst e
  exact ⟨rfl, List.append_cancel_left h⟩
theorem sb_cancel {a b : List UInt8} (ha : a.length < 18446744073709551616) (hb : b.length < 18446744073709551616) {x y : List UInt8} (h : sb a ++ x = sb b ++ y) : a = b ∧ x = y := by
  have g1 := getS_sb ha x
  rw [h, getS_sb hb y] at g1
  have e : a = b := by simp at g1; exact g1.1.symm
  subst e
  exact ⟨rfl, List.append_cancel_left h⟩
theorem sb_can {a b : List UInt8} (ha : a.length ≤ 300000) (hb : b.length ≤ 300000) {x y : List UInt8} (h : sb a ++ x = sb b ++ y) : a = b ∧ x = y := sb_cancel (by omega) (by omega) h
theorem n64c {a b : UInt64} {x y : List UInt8} (h : vb a.toNat ++ x = vb b.toNat ++ y) : a = b ∧ x = y := by
  obtain ⟨h1, h2⟩ := vb_cancel a.toNat_lt b.toNat_lt h
  exact ⟨u64_inj h1, h2⟩
def GoodC (c : Cmd) : Prop := MayC c ∧ Fit c
theorem parts_pf : ∀ {ps qs : List Part} {x y : List UInt8}, FitP ps → FitP qs → AllG ps → AllG qs → ps.length = qs.length → ps.flatMap partB ++ x = qs.flatMap partB ++ y → ps = qs ∧ x = y := by
  intro ps
  induction ps with
  | nil =>
    intro qs x y _ _ _ _ hl h
    have : qs = [] := List.eq_nil_of_length_eq_zero hl.symm
    subst this
    exact ⟨rfl, by simpa using h⟩
  | cons p ps ih =>
    intro qs x y f1 f2 g1 g2 hl h
    cases qs with
    | nil => simp at hl
    | cons q qs =>
      simp only [List.flatMap_cons, partB, List.append_assoc, List.cons_append, List.nil_append, List.cons.injEq] at h
      obtain ⟨h1, h⟩ := h
      have fp := f1 p (by simp)
      have fq := f2 q (by simp)
      obtain ⟨h2, h⟩ := sb_can fp.1 fq.1 h
      have gp := g1 p (by simp)
      have gq := g2 q (by simp)
      unfold GoodP at gp gq
      have tl : p.va = q.va ∧ ps.flatMap partB ++ x = qs.flatMap partB ++ y := by
        rw [h1] at h gp
        by_cases c : q.op.toNat = 2
        · rw [if_pos c] at h; exact sb_can fp.2 fq.2 (by rw [if_pos c] at h; exact h)
        · rw [if_neg c, List.nil_append] at h
          rw [if_neg c, List.nil_append] at h
          rcases gp with gp | gp
          · exact absurd gp c
          · rcases gq with gq | gq
            · exact absurd gq c
            · exact ⟨by rw [gp.2, gq.2], h⟩
      obtain ⟨e1, e2⟩ := ih (qs := qs) (x := x) (y := y) (fun z hz => f1 z (by simp [hz])) (fun z hz => f2 z (by simp [hz])) (fun z hz => g1 z (by simp [hz])) (fun z hz => g2 z (by simp [hz])) (by simpa using hl) tl.2
      refine ⟨?_, e2⟩
      obtain ⟨⟩ := p; obtain ⟨⟩ := q
      simp only at *
      rw [h1, h2, tl.1, e1]
theorem encC_pf : PF GoodC encC := by
  rintro a b x y ⟨ma, fa⟩ ⟨mb, fb⟩ h
  simp only [encC, headB, List.append_assoc, List.cons_append, List.nil_append, List.cons.injEq] at h
  obtain ⟨h1, h⟩ := h
  obtain ⟨n1, h⟩ := n64c h
  obtain ⟨n2, h⟩ := n64c h
  obtain ⟨a1, a2, a3, a4⟩ := ma
  obtain ⟨b1, b2, b3, b4⟩ := mb
  obtain ⟨f1, f2, f3, f4, f5, f6, f7⟩ := fa
  obtain ⟨g1, g2, g3, g4, g5, g6, g7⟩ := fb
  have ho : a.op.toNat = b.op.toNat := by rw [h1]
  by_cases k1 : a.op.toNat = 1 ∨ a.op.toNat = 6
  · skip
    obtain ⟨p1, p2⟩ := enc_1 (c := a) k1
    obtain ⟨r1, r2⟩ := enc_1 (c := b) (by rw [← ho]; exact k1)
    rw [p2, r2] at h
    try simp only [List.append_assoc, List.cons_append, List.nil_append, List.cons.injEq] at h
    obtain ⟨e0, h⟩ := n64c h
    exact ⟨by rw [a2, b2, p1, r1]; simp only [blank]; rw [h1, n1, n2, e0], h⟩
  by_cases k2 : a.op.toNat = 2
  · skip
    obtain ⟨p1, p2⟩ := enc_2 (c := a) k2
    obtain ⟨r1, r2⟩ := enc_2 (c := b) (by rw [← ho]; exact k2)
    rw [p2, r2] at h
    try simp only [List.append_assoc, List.cons_append, List.nil_append, List.cons.injEq] at h
    obtain ⟨e0, h⟩ := sb_can f1 g1 h
    obtain ⟨e1, h⟩ := sb_can f2 g2 h
    obtain ⟨e2, h⟩ := n64c h
    exact ⟨by rw [a2, b2, p1, r1]; simp only [blank]; rw [h1, n1, n2, e0, e1, e2], h⟩
  by_cases k3 : a.op.toNat = 3 ∨ a.op.toNat = 8
  · skip
    obtain ⟨p1, p2⟩ := enc_3 (c := a) k3
    obtain ⟨r1, r2⟩ := enc_3 (c := b) (by rw [← ho]; exact k3)
    rw [p2, r2] at h
    try simp only [List.append_assoc, List.cons_append, List.nil_append, List.cons.injEq] at h
    obtain ⟨e0, h⟩ := sb_can f1 g1 h
    exact ⟨by rw [a2, b2, p1, r1]; simp only [blank]; rw [h1, n1, n2, e0], h⟩
  by_cases k4 : a.op.toNat = 4
  · skip
    obtain ⟨p1, p2⟩ := enc_4 (c := a) k4
    obtain ⟨r1, r2⟩ := enc_4 (c := b) (by rw [← ho]; exact k4)
    rw [p2, r2] at h
    try simp only [List.append_assoc, List.cons_append, List.nil_append, List.cons.injEq] at h
    obtain ⟨e0, h⟩ := sb_can f1 g1 h
    obtain ⟨e1, h⟩ := sb_can f3 g3 h
    obtain ⟨e2, h⟩ := sb_can f2 g2 h
    exact ⟨by rw [a2, b2, p1, r1]; simp only [blank]; rw [h1, n1, n2, e0, e1, e2], h⟩
  by_cases k5 : a.op.toNat = 5
  · skip
    obtain ⟨p1, p2⟩ := enc_5 (c := a) k5
    obtain ⟨r1, r2⟩ := enc_5 (c := b) (by rw [← ho]; exact k5)
    rw [p2, r2] at h
    try simp only [List.append_assoc, List.cons_append, List.nil_append, List.cons.injEq] at h
    obtain ⟨hc, h⟩ := h
    have hl : a.ps.length = b.ps.length := by
      have q1 := (a3 k5).2
      have q2 := (b3 (by rw [← ho]; exact k5)).2
      have := congrArg UInt8.toNat hc
      rw [toNat_ofNat (by omega), toNat_ofNat (by omega)] at this; exact this
    obtain ⟨e0, h⟩ := parts_pf f7 g7 a4 b4 hl h
    exact ⟨by rw [a2, b2, p1, r1]; simp only [blank]; rw [h1, n1, n2, e0], h⟩
  by_cases k7 : a.op.toNat = 7
  · skip
    obtain ⟨p1, p2⟩ := enc_7 (c := a) k7
    obtain ⟨r1, r2⟩ := enc_7 (c := b) (by rw [← ho]; exact k7)
    rw [p2, r2] at h
    try simp only [List.append_assoc, List.cons_append, List.nil_append, List.cons.injEq] at h
    obtain ⟨e0, h⟩ := n64c h
    exact ⟨by rw [a2, b2, p1, r1]; simp only [blank]; rw [h1, n1, n2, e0], h⟩
  by_cases k9 : a.op.toNat = 9
  · skip
    obtain ⟨p1, p2⟩ := enc_9 (c := a) k9
    obtain ⟨r1, r2⟩ := enc_9 (c := b) (by rw [← ho]; exact k9)
    rw [p2, r2] at h
    try simp only [List.append_assoc, List.cons_append, List.nil_append, List.cons.injEq] at h
    obtain ⟨e0, h⟩ := sb_can f4 g4 h
    obtain ⟨e1, h⟩ := sb_can f5 g5 h
    obtain ⟨e2, h⟩ := List.cons.inj h
    exact ⟨by rw [a2, b2, p1, r1]; simp only [blank]; rw [h1, n1, n2, e0, e1, e2], h⟩
  have k0 : ¬ (1 ≤ a.op.toNat ∧ a.op.toNat ≤ 9) := by omega
  obtain ⟨p1, p2⟩ := enc_0 (c := a) k0
  obtain ⟨r1, r2⟩ := enc_0 (c := b) (by rw [← ho]; exact k0)
  rw [p2, r2] at h
  try simp only [List.append_assoc, List.cons_append, List.nil_append, List.cons.injEq] at h
  exact ⟨by rw [a2, b2, p1, r1]; simp only [blank]; rw [h1, n1, n2], h⟩
theorem nu_inj {x y : Int64} (hx : Sm x.toInt) (hy : Sm y.toInt) (h : nu x = nu y) : x = y := by rw [← iz_nu hx, ← iz_nu hy, h]
theorem encO_pf : PF MayO encO := by
  rintro a b x y ma mb h
  have h1 : a.op = b.op := by
    rw [encO_cons a, encO_cons b] at h
    simp only [List.cons_append, List.cons.injEq] at h; exact h.1
  have ho : a.op.toNat = b.op.toNat := by rw [h1]
  have ea := ma.2.1
  have eb := mb.2.1
  obtain ⟨x1, x2, x3, x4⟩ := ma.2.2.2.2.2
  obtain ⟨y1, y2, y3, y4⟩ := mb.2.2.2.2.2
  have r1 := ma.1
  by_cases k1 : a.op.toNat = 1
  · skip
    rw [encO_1 k1, encO_1 (by rw [← ho]; exact k1)] at h
    rw [plainO_1 k1] at ea
    rw [plainO_1 (by rw [← ho]; exact k1)] at eb
    simp only [Oper.tok, List.append_assoc, List.cons_append, List.nil_append, List.cons.injEq] at h
    obtain ⟨_, h⟩ := h
    obtain ⟨e0, h⟩ := h
    obtain ⟨e1, h⟩ := n64c h
    obtain ⟨e2, h⟩ := n64c h
    obtain ⟨e3, h⟩ := n64c h
    obtain ⟨e4, h⟩ := n64c h
    exact ⟨by rw [ea, eb]; rw [h1, e0, nu_inj x1 y1 e1, nu_inj x2 y2 e2, nu_inj x3 y3 e3, nu_inj x4 y4 e4], h⟩
  by_cases k2 : a.op.toNat = 2
  · skip
    rw [encO_2 k2, encO_2 (by rw [← ho]; exact k2)] at h
    rw [plainO_2 k2] at ea
    rw [plainO_2 (by rw [← ho]; exact k2)] at eb
    simp only [Oper.tok, List.append_assoc, List.cons_append, List.nil_append, List.cons.injEq] at h
    obtain ⟨_, h⟩ := h
    obtain ⟨e0, h⟩ := h
    obtain ⟨w0, w1, w2, w3, w4, w5, w6, w7, h⟩ := h
    obtain ⟨e2, h⟩ := h
    exact ⟨by rw [ea, eb]; rw [h1, e0, w0, w1, w2, w3, w4, w5, w6, w7, e2], h⟩
  by_cases k3 : a.op.toNat = 3
  · skip
    rw [encO_3 k3, encO_3 (by rw [← ho]; exact k3)] at h
    rw [plainO_3 k3] at ea
    rw [plainO_3 (by rw [← ho]; exact k3)] at eb
    simp only [Oper.tok, List.append_assoc, List.cons_append, List.nil_append, List.cons.injEq] at h
    obtain ⟨_, h⟩ := h
    obtain ⟨w0, w1, w2, w3, w4, w5, w6, w7, h⟩ := h
    exact ⟨by rw [ea, eb]; rw [h1, w0, w1, w2, w3, w4, w5, w6, w7], h⟩
  by_cases k4 : a.op.toNat = 4
  · skip
    rw [encO_4 k4, encO_4 (by rw [← ho]; exact k4)] at h
    rw [plainO_4 k4] at ea
    rw [plainO_4 (by rw [← ho]; exact k4)] at eb
    simp only [Oper.tok, List.append_assoc, List.cons_append, List.nil_append, List.cons.injEq] at h
    obtain ⟨_, h⟩ := h
    obtain ⟨e0, h⟩ := h
    exact ⟨by rw [ea, eb]; rw [h1, e0], h⟩
  have k5 : 4 < a.op.toNat := by omega
  rw [encO_5 k5, encO_5 (by rw [← ho]; exact k5)] at h
  rw [plainO_5 k5] at ea
  rw [plainO_5 (by rw [← ho]; exact k5)] at eb
  simp only [Oper.tok, List.append_assoc, List.cons_append, List.nil_append, List.cons.injEq] at h
  obtain ⟨_, h⟩ := h
  obtain ⟨e0, h⟩ := h
  exact ⟨by rw [ea, eb]; rw [h1, e0], h⟩
end Go.Proofs.Yteikngjiaboeaaa.Wt
namespace Go.Proofs.Yteikngjiaboeaaa.Wt
open Go Go.Proofs.Yteikngjiaboeaaa.Am Go.Proofs.Yteikngjiaboeaaa.IrAll
set_option linter.unusedVariables false
set_option linter.unusedSimpArgs false
variable {h base : H} {L : List Seg} {R : List Nat}
set_option maxRecDepth 100000 in
theorem opens_84 : OpensL Try.prog 84 (α := Part) (fun _ y cs => cs = KPart.cells y) 3 (fun y => y.ky.length < 9223372036854775808 ∧ y.va.length < 9223372036854775808) := by
  refine OpensL.struct (fs := [(5, 0), (9, 1), (9, 2)]) (L := (layP layU8 (layP layStr layStr))) (mk := fun (op, ky, va) => ⟨op, ky, va⟩) ?_ ?_ (by kernel_rfl) (by kernel_rfl) (OpensLF.cons (by decide) (by decide) opens_5 (OpensLF.cons (by decide) (by decide) opens_9 (OpensLF.one opens_9)))
  · rintro h ⟨op, ky, va⟩ cs ⟨_, _, rfl, rfl, ⟨_, _, rfl, rfl, rfl⟩⟩
    rfl
  · rintro ⟨op, ky, va⟩ ⟨k0, k1, k2⟩
    exact ⟨k1, k2⟩
theorem opens_28 : OpensL Try.prog 28 (laySl (fun _ y cs => cs = KPart.cells y) 3) 1 (fun l => l.length < 9223372036854775808 ∧ ∀ x ∈ l, (fun y => y.ky.length < 9223372036854775808 ∧ y.va.length < 9223372036854775808) x) := OpensL.slice Try.underlying28 (by kernel_rfl) (by decide) opens_84
set_option maxRecDepth 100000 in
theorem opens_30 : OpensL Try.prog 30 (α := Cmd) (fun h c cs => ∃ V, cs = Cmd.cells c V ∧ SlL (fun _ y cs => cs = KPart.cells y) 3 h V c.ps) 12 (fun c => c.ky.length < 9223372036854775808 ∧ c.va.length < 9223372036854775808 ∧ c.ex.length < 9223372036854775808 ∧ c.fr.length < 9223372036854775808 ∧ c.to.length < 9223372036854775808 ∧ c.ps.length < 9223372036854775808 ∧ ∀ p ∈ c.ps, p.ky.length < 9223372036854775808 ∧ p.va.length < 9223372036854775808) := by
  refine OpensL.struct (fs := [(5, 0), (27, 1), (27, 2), (9, 3), (9, 4), (9, 5), (9, 6), (9, 7), (5, 8), (27, 9), (27, 10), (28, 11)]) (L := (layP layU8 (layP layU64 (layP layU64 (layP layStr (layP layStr (layP layStr (layP layStr (layP layStr (layP layU8 (layP layU64 (layP layU64 (laySl (fun _ y cs => cs = KPart.cells y) 3))))))))))))) (mk := fun (op, se, sq, ky, va, ex, fr, to, li, le, tt, ps) => ⟨op, se, sq, ky, va, ex, fr, to, li, le, tt, ps⟩) ?_ ?_ (by kernel_rfl) (by kernel_rfl) (OpensLF.cons (by decide) (by decide) opens_5 (OpensLF.cons (by decide) (by decide) opens_27 (OpensLF.cons (by decide) (by decide) opens_27 (OpensLF.cons (by decide) (by decide) opens_9 (OpensLF.cons (by decide) (by decide) opens_9 (OpensLF.cons (by decide) (by decide) opens_9 (OpensLF.cons (by decide) (by decide) opens_9 (OpensLF.cons (by decide) (by decide) opens_9 (OpensLF.cons (by decide) (by decide) opens_5 (OpensLF.cons (by decide) (by decide) opens_27 (OpensLF.cons (by decide) (by decide) opens_27 (OpensLF.one opens_28))))))))))))
  · rintro h ⟨op, se, sq, ky, va, ex, fr, to, li, le, tt, ps⟩ cs ⟨_, _, rfl, rfl, ⟨_, _, rfl, rfl, ⟨_, _, rfl, rfl, ⟨_, _, rfl, rfl, ⟨_, _, rfl, rfl, ⟨_, _, rfl, rfl, ⟨_, _, rfl, rfl, ⟨_, _, rfl, rfl, ⟨_, _, rfl, rfl, ⟨_, _, rfl, rfl, ⟨_, _, rfl, rfl, ⟨V, rfl, hS⟩⟩⟩⟩⟩⟩⟩⟩⟩⟩⟩⟩
    exact ⟨V, rfl, hS⟩
  · rintro ⟨op, se, sq, ky, va, ex, fr, to, li, le, tt, ps⟩ ⟨k0, k1, k2, k3, k4, k5, k6, k7, k8, k9, k10, k11⟩
    exact ⟨k3, k4, k5, k6, k7, k11⟩
end Go.Proofs.Yteikngjiaboeaaa.Wt
namespace Go.Proofs.Yteikngjiaboeaaa.Wt
open Go Go.Proofs.Yteikngjiaboeaaa.Am Go.Proofs.Yteikngjiaboeaaa.IrAll
set_option linter.unusedVariables false
set_option linter.unusedSimpArgs false
variable {h base : H} {L : List Seg} {R : List Nat}
theorem sb_lenT {t : List UInt8} (h : t.length ≤ 3000) : (sb t).length ≤ 3010 := by have := sb_len (t := t) (by omega); omega
theorem parts_len {ps : List Part} (h : TightP ps) : (ps.flatMap partB).length ≤ ps.length * 6021 := by
  induction ps with
  | nil => simp
  | cons p ps ih =>
    have h1 := ih fun x hx => h x (by simp [hx])
    have h2 := h p (by simp)
    have s1 := sb_lenT h2.1
    have s2 := sb_lenT h2.2
    have hp : (partB p).length ≤ 6021 := by
      unfold partB
      split <;> simp <;> omega
    simp only [List.flatMap_cons, List.length_append, List.length_cons]; omega
theorem encC_len {c : Cmd} (hm : MayC c) (ht : TightC c) : (encC c).length ≤ 26000 := by
  obtain ⟨t1, t2, t3, t4, t5, t6, t7⟩ := ht
  have v1 := vb_len c.se.toNat_lt
  have v2 := vb_len c.sq.toNat_lt
  have v3 := vb_len c.tt.toNat_lt
  have v4 := vb_len c.le.toNat_lt
  have s1 := sb_lenT t1
  have s2 := sb_lenT t2
  have s3 := sb_lenT t3
  have s4 := sb_lenT t4
  have s5 := sb_lenT t5
  have p1 := parts_len t7
  have hb : (bodyB c).length ≤ 25900 := by
    unfold bodyB
    split
    · omega
    split
    · simp only [List.length_append]; omega
    split
    · omega
    split
    · simp only [List.length_append]; omega
    split
    · have := (hm.2.2.1 (by assumption)).2; simp only [List.length_append, List.length_cons, List.length_nil]; omega
    split
    · omega
    split
    · simp only [List.length_append, List.length_cons, List.length_nil]; omega
    · simp
  simp only [encC, headB, List.length_append, List.length_cons, List.length_nil]; omega
theorem encO_len {o : Oper} : (encO o).length ≤ 50 := by
  have v1 := vb_len (nu o.ks).toNat_lt
  have v2 := vb_len (nu o.bt).toNat_lt
  have v3 := vb_len (nu o.ra).toNat_lt
  have v4 := vb_len (nu o.bu).toNat_lt
  unfold encO Oper.tok
  repeat' split
  all_goals simp only [List.length_append, List.length_cons, List.length_nil]; omega
theorem wrC_t {c : Cmd} (h : (if mayB c then encC c else []) ≠ []) : mayB c = true := by
  cases q : mayB c with
  | true => rfl
  | false => rw [q] at h; exact absurd rfl h
theorem wrO_t {c : Oper} (h : (if mayOB c then encO c else []) ≠ []) : mayOB c = true := by
  cases q : mayOB c with
  | true => rfl
  | false => rw [q] at h; exact absurd rfl h
theorem wrO_len {c : Oper} : (if mayOB c then encO c else []).length ≤ 50 := by
  split
  · exact encO_len
  · simp
end Go.Proofs.Yteikngjiaboeaaa.Wt
namespace Go.Proofs.Yteikngjiaboeaaa.Wt
open Go Go.Proofs.Yteikngjiaboeaaa.Am Go.Proofs.Yteikngjiaboeaaa.IrAll
set_option linter.unusedVariables false
set_option linter.unusedSimpArgs false
variable {h base : H} {L : List Seg} {R : List Nat}
theorem WS.appL {α : Type} {K : Row α} {m : List α} {y : Value} {e : Env} {tab : Nat → Option FD} {rb b e0 : Nat} {d : Option Nat} {g : Option (Nat × Bool)} {ss : List Step} {q : Env → H → Prop} {x z : Operand} {bytes es : Nat} (M : Mem base h ([(b, ⟨[], e0, false⟩)] :: L) R) (A : K.Src h y m) (hes : es = K.n) (hb : m.length * bytes ≤ 140737488355328) (hn : m.length ≤ 1099511627776) (hg : gd e g = some true) (hx : ev e x = some (.slice (some ⟨b, 0, none⟩) 0 1)) (hy : ev e z = some y)
    (k0 : m = [] → WS tab rb ss (put e d (.slice (some ⟨b, 0, none⟩) 0 1)) h q)
    (k1 : m ≠ [] → ∀ p h1, Mem base h1 ([(p, ⟨K.flat m, K.n, false⟩)] :: [(b, ⟨[], e0, false⟩)] :: L) R → WS tab rb ss (put e d (.slice (some ⟨p, 0, none⟩) m.length (2 * m.length))) h1 q) : WS tab rb (.op d g (.app es bytes x z) :: ss) e h q := by
  subst hes
  obtain ⟨a1, a2⟩ := A
  have hall := plain1_one (K.flat_plain m)
  have hg2 : h.get b = some ⟨[], e0, false⟩ := M.own0 _ (List.mem_singleton.2 rfl)
  by_cases c : m = []
  · subst c
    refine .op hg (op_app hx hy (r := (.slice (some ⟨b, 0, none⟩) 0 1, h)) ?_) (k0 rfl)
    simp only [appE, a1, a2]; rfl
  · have hm : m.length ≠ 0 := fun e => c (List.eq_nil_of_length_eq_zero e)
    refine .op hg (op_app hx hy (r := (.slice (some ⟨h.next, 0, none⟩) m.length (2 * m.length), h.alloc ⟨K.flat m, K.n, false⟩)) ?_) (k1 c _ _ (M.alloc _))
    simp only [appE, a1, a2]
    rw [if_neg (by omega), if_pos ⟨by rw [Nat.zero_add]; exact hb, by omega, hall⟩, lds_at hg2 (by simp)]
    simp only [Nat.zero_mul, List.take_zero, List.nil_append, Nat.zero_add]
    rfl
def nx (ts : List (List UInt8)) (k : Nat) : List UInt8 := (ts[k]?).getD []
def TS (ts : List (List UInt8)) : Prop := ∀ t ∈ ts, t.length ≤ 3000
theorem nx_len {ts : List (List UInt8)} (h : TS ts) (k : Nat) : (nx ts k).length ≤ 3000 := by
  unfold nx
  cases e : ts[k]? with
  | none => simp
  | some t => simpa using h t (List.mem_of_getElem? e)
theorem next_ran {nb tb k : Nat} {V : Value} {ts : List (List UInt8)} (A : KStr.Sl base V ts) (M : Mem base h ([(nb, ⟨[.int .i64 ((k : Nat) : Int)], 0, false⟩)] :: [(tb, ⟨[V], 0, false⟩)] :: L) []) (hk : k < 1000000) :
    Cll tab0 50 [.pointer (some ⟨nb, 0, none⟩), .pointer (some ⟨tb, 0, none⟩)] h (fun v h2 => v = .string (bs (nx ts k)) ∧ Mem base h2 ([(nb, ⟨[.int .i64 ((k + 1 : Nat) : Int)], 0, false⟩)] :: [(tb, ⟨[V], 0, false⟩)] :: L) []) := by
  refine Cll.code rfl rfl ?_
  refine WC.env [(0, _), (1, _)] rfl ?_
  refine WC.seq ?_
  refine WC.run ?_
  refine WS.op rfl rfl (WS.nil [(0, _), (1, _)] rfl ?_)
  refine WC.seq ?_
  refine WC.run ?_
  refine WS.op rfl (op_ld (M.at 0 rfl) rfl rfl) (WS.opV (.int .i64 (((k + 1) : Nat) : Int)) rfl rfl (add_i64 (a := k) (b := 1) (by omega)) ?_)
  refine WS.st1 (M.focus 0 rfl) [_] [_] rfl rfl rfl rfl rfl (Nat.le_of_ble_eq_true rfl) (Nat.le_of_ble_eq_true rfl) rfl rfl ?_
  intro h1 M2
  replace M2 : Mem _ _ ([(nb, _)] :: [(tb, _)] :: L) _ := M2
  refine WS.nil [(0, _), (1, _)] rfl ?_
  refine WC.seq ?_
  refine WC.seq ?_
  refine WC.run ?_
  refine WS.op rfl (op_ld (M2.at 0 rfl) rfl rfl) (WS.op rfl (op_ld (M2.at 1 rfl) rfl rfl) (WS.op rfl (op_lenVS A rfl) ?_))
  refine WS.gtrN (a := (k + 1)) (b := ts.length) rfl rfl rfl (fun e8 => ?_) (fun e8 => ?_)
  ·
   refine WS.nil [(0, _), (1, _), (8, _)] rfl ?_
   refine WC.condT rfl ?_
   refine WC.seq ?_
   refine WC.run ?_
   refine WS.op rfl rfl (WS.nil [(2, _)] rfl ?_)
   refine WC.ret ?_
   refine ⟨[_], (res_tmp rfl res_nil), ?_⟩
   exact ⟨by unfold nx; rw [List.getElem?_eq_none (by omega)]; rfl, M2⟩
  ·
   refine WS.nil [(0, _), (1, _), (8, _)] rfl ?_
   refine WC.condF rfl ?_
   refine WC.skip ?_
   refine WC.seq ?_
   refine WC.run ?_
   refine WS.op rfl (op_ld (M2.at 1 rfl) rfl rfl) (WS.op rfl (op_ld (M2.at 0 rfl) rfl rfl) (WS.opV (.int .i64 ((k : Nat) : Int)) rfl rfl (sub_i64 (a := (k + 1)) (b := 1) (by omega)) ?_))
   obtain ⟨y12, hy12⟩ : ∃ y, ts[k]? = some y := ⟨_, List.getElem?_eq_getElem (show k < ts.length by omega)⟩
   refine WS.iaVS (A.mono M2.sub) k hy12 rfl rfl rfl rfl ?_
   intro b_ o_ ha12
   refine WS.op rfl (op_ldH rfl (At.ld0 ha12 rfl)) (WS.op rfl rfl (WS.nil [(2, _)] rfl ?_))
   refine WC.ret ?_
   refine ⟨[_], (res_tmp rfl res_nil), ?_⟩
   exact ⟨by unfold nx; rw [hy12]; rfl, M2⟩
def SwP (ps qs : List Part) : Prop := qs.length = ps.length ∧ ∀ (j : Nat) (p q : Part), ps[j]? = some p → qs[j]? = some q → q.op = p.op ∧ (p.op.toNat ≠ 2 → q.va = p.va)
theorem SwP.refl (ps : List Part) : SwP ps ps := ⟨rfl, fun j p q h1 h2 => by rw [h1] at h2; cases h2; exact ⟨rfl, fun _ => rfl⟩⟩
theorem SwP.set {ps qs : List Part} {i : Nat} {y y' : Part} (S : SwP ps qs) (hy : qs[i]? = some y) (h1 : y'.op = y.op) (h2 : y.op.toNat ≠ 2 → y'.va = y.va) : SwP ps (qs.set i y') := by
  refine ⟨by rw [List.length_set]; exact S.1, fun j p q a b => ?_⟩
  rw [List.getElem?_set] at b
  split at b
  · rename_i e; subst e
    rw [if_pos (List.getElem?_eq_some_iff.1 hy).1] at b; cases b
    obtain ⟨c1, c2⟩ := S.2 i p y a hy
    exact ⟨by rw [h1, c1], fun z => by rw [h2 (by rw [c1]; exact z), c2 z]⟩
  · exact S.2 j p q a b
theorem TightP_set {qs : List Part} {i : Nat} {y' : Part} (T : TightP qs) (h : y'.ky.length ≤ 3000 ∧ y'.va.length ≤ 3000) : TightP (qs.set i y') := by
  intro p hp
  rcases List.mem_or_eq_of_mem_set hp with q | q
  · exact T p q
  · subst q; exact h
theorem SwP.good {ps qs : List Part} (S : SwP ps qs) : AllG qs ↔ AllG ps := by
  have key : ∀ (j : Nat) (p q : Part), ps[j]? = some p → qs[j]? = some q → (GoodP q ↔ GoodP p) := fun j p q a b => by
    obtain ⟨c1, c2⟩ := S.2 j p q a b
    unfold GoodP
    rw [c1]
    by_cases z : p.op.toNat = 2
    · simp [z]
    · rw [c2 z]
  constructor
  · intro A p hp
    obtain ⟨j, hj, rfl⟩ := List.mem_iff_getElem.1 hp
    have hj2 : j < qs.length := by rw [S.1]; exact hj
    exact (key j _ _ (List.getElem?_eq_getElem hj) (List.getElem?_eq_getElem hj2)).1 (A _ (List.getElem_mem hj2))
  · intro A p hp
    obtain ⟨j, hj, rfl⟩ := List.mem_iff_getElem.1 hp
    have hj2 : j < ps.length := by rw [← S.1]; exact hj
    exact (key j _ _ (List.getElem?_eq_getElem hj2) (List.getElem?_eq_getElem hj)).2 (A _ (List.getElem_mem hj2))
structure SwC (c d : Cmd) : Prop where
  op : d.op = c.op
  se : d.se = c.se
  sq : d.sq = c.sq
  li : d.li = c.li
  le : d.le = c.le
  tt : d.tt = c.tt
  ky : ¬ (c.op.toNat = 2 ∨ c.op.toNat = 3 ∨ c.op.toNat = 8 ∨ c.op.toNat = 4) → d.ky = c.ky
  va : ¬ (c.op.toNat = 2 ∨ c.op.toNat = 4) → d.va = c.va
  ex : ¬ c.op.toNat = 4 → d.ex = c.ex
  ft : ¬ c.op.toNat = 9 → d.fr = c.fr ∧ d.to = c.to
  ps : ¬ c.op.toNat = 5 → d.ps = c.ps
  sw : SwP c.ps d.ps
  tight : TightC d
theorem plain_iff {c : Cmd} : c = plain c ↔ (¬ (c.op.toNat = 2 ∨ c.op.toNat = 3 ∨ c.op.toNat = 8 ∨ c.op.toNat = 4) → c.ky = []) ∧ (¬ (c.op.toNat = 2 ∨ c.op.toNat = 4) → c.va = []) ∧ (¬ c.op.toNat = 4 → c.ex = []) ∧ (¬ c.op.toNat = 9 → c.fr = [] ∧ c.to = []) ∧ (¬ c.op.toNat = 9 → c.li = 0) ∧ (¬ (c.op.toNat = 2 ∨ c.op.toNat = 7) → c.le = 0) ∧ (¬ (c.op.toNat = 1 ∨ c.op.toNat = 6) → c.tt = 0) ∧ (¬ c.op.toNat = 5 → c.ps = []) := by
  obtain ⟨op, se, sq, ky, va, ex, fr, to, li, le, tt, ps⟩ := c
  by_cases h1 : op.toNat = 1
  · rw [(enc_1 (.inl h1)).1]; simp [blank, h1, and_assoc]
  by_cases h6 : op.toNat = 6
  · rw [(enc_1 (.inr h6)).1]; simp [blank, h6, and_assoc]
  by_cases h2 : op.toNat = 2
  · rw [(enc_2 h2).1]; simp [blank, h2, and_assoc]
  by_cases h3 : op.toNat = 3
  · rw [(enc_3 (.inl h3)).1]; simp [blank, h3, and_assoc]
  by_cases h8 : op.toNat = 8
  · rw [(enc_3 (.inr h8)).1]; simp [blank, h8, and_assoc]
  by_cases h4 : op.toNat = 4
  · rw [(enc_4 h4).1]; simp [blank, h4, and_assoc]
  by_cases h5 : op.toNat = 5
  · rw [(enc_5 h5).1]; simp [blank, h5, and_assoc]
  by_cases h7 : op.toNat = 7
  · rw [(enc_7 h7).1]; simp [blank, h7, and_assoc]
  by_cases h9 : op.toNat = 9
  · rw [(enc_9 h9).1]; simp [blank, h9, and_assoc]
  rw [(enc_0 (by simp only; omega)).1]; simp [blank, h1, h2, h3, h4, h5, h6, h7, h8, h9, and_assoc]
theorem SwC.may {c d : Cmd} (S : SwC c d) : mayB d = mayB c := by
  have hp : d = plain d ↔ c = plain c := by
    rw [plain_iff, plain_iff, S.op, S.li, S.le, S.tt]
    have a1 := S.ky
    have a2 := S.va
    have a3 := S.ex
    have a4 := S.ft
    have a5 := S.ps
    constructor
    · rintro ⟨b1, b2, b3, b4, b5, b6, b7, b8⟩
      exact ⟨fun z => by rw [← a1 z]; exact b1 z, fun z => by rw [← a2 z]; exact b2 z, fun z => by rw [← a3 z]; exact b3 z, fun z => by rw [← (a4 z).1, ← (a4 z).2]; exact b4 z, b5, b6, b7, fun z => by rw [← a5 z]; exact b8 z⟩
    · rintro ⟨b1, b2, b3, b4, b5, b6, b7, b8⟩
      exact ⟨fun z => by rw [a1 z]; exact b1 z, fun z => by rw [a2 z]; exact b2 z, fun z => by rw [a3 z]; exact b3 z, fun z => by rw [(a4 z).1, (a4 z).2]; exact b4 z, b5, b6, b7, fun z => by rw [a5 z]; exact b8 z⟩
  have : MayC d ↔ MayC c := by
    unfold MayC
    rw [hp, S.op, S.sw.1, S.sw.good]
  unfold mayB
  exact decide_eq_decide.2 this
set_option maxRecDepth 8000 in
theorem Swap_ran (W : Mem h h [] []) {c : Cmd} {V Vt : Value} {ts : List (List UInt8)} (A : KPart.Sl h V c.ps) (A2 : KStr.Sl h Vt ts) (ht : TightC c) (hts : TS ts) : Cll tab0 24 [c.val V, Vt] h (fun v h2 => ∃ d V2, v = Cmd.val d V2 ∧ SwC c d ∧ ((V2 = V ∧ d.ps = c.ps ∧ Mem h h2 [] []) ∨ (∃ p n, V2 = .slice (some ⟨p, 0, none⟩) d.ps.length n ∧ Mem h h2 [[(p, ⟨KPart.flat d.ps, 3, false⟩)]] []))) := by
  obtain ⟨P, n, rfl⟩ := A.shape
  obtain ⟨Pt, nt, rfl⟩ := A2.shape
  have hnx := nx_len hts
  obtain ⟨t1, t2, t3, t4, t5, t6, t7⟩ := id ht
  refine Cll.code rfl rfl ?_
  refine WC.env [(0, _), (1, _)] rfl ?_
  refine WC.seq ?_
  refine WC.run ?_
  refine WS.box W [_, _, _, _, _, _, _, _, _, _, _, _] rfl rfl rfl rfl ?_
  intro p1 h2 M3
  refine WS.box M3 [_] rfl rfl rfl rfl ?_
  intro p4 h5 M6
  refine WS.new M6 rfl ?_
  intro p7 h8 M9
  refine WS.nil [(2, _), (3, _), (4, _)] rfl ?_
  refine WC.seq ?_
  refine WC.run ?_
  refine WS.new M9 rfl ?_
  intro p10 h11 M12
  refine WS.st1 (M12.focus 0 rfl) [_] [_] rfl rfl rfl rfl rfl (Nat.le_of_ble_eq_true rfl) (Nat.le_of_ble_eq_true rfl) rfl rfl ?_
  intro h13 M14
  replace M14 : Mem _ _ ([(p10, _)] :: [(p7, _)] :: [(p4, _)] :: [(p1, _)] :: []) _ := M14
  refine WS.nil [(2, _), (3, _), (4, _), (5, _)] rfl ?_
  refine WC.seq ?_
  refine WC.run ?_
  refine WS.op rfl rfl (WS.op rfl rfl (WS.nil [(2, _), (4, _), (6, _)] rfl ?_))
  refine WC.seq ?_
  refine WC.seq ?_
  refine WC.run ?_
  refine WS.op rfl rfl (WS.op rfl (op_ld (M14.at 3 rfl) rfl rfl) (WS.nil [(2, _), (4, _), (6, _), (11, _)] rfl ?_))
  refine WC.block ?_
  refine WC.seq ?_
  refine WC.run ?_
  refine WS.eqlN (a := (c.op).toNat) (b := 2) rfl rfl rfl (fun e13 => ?_) (fun e13 => ?_)
  ·
   refine WS.op rfl rfl (WS.nil [(2, _), (4, _), (6, _), (11, _), (12, _)] rfl ?_)
   refine WC.condT rfl ?_
   refine WC.run ?_
   refine WS.op rfl rfl ?_
   refine WS.call rfl rfl rfl (next_ran (k := 0) A2 ((M14.focus 2 rfl).focus 1 rfl) (by omega)) ?_
   rintro _ h15 ⟨rfl, M16⟩
   replace M16 : Mem _ _ ([(p10, _)] :: [(p4, _)] :: [(p7, _)] :: [(p1, _)] :: []) _ := M16
   have hl15 := hnx 0
   refine WS.op rfl rfl ?_
   refine WS.call rfl rfl rfl (next_ran (k := (0 + 1)) A2 ((M16.focus 1 rfl).focus 1 rfl) (by omega)) ?_
   rintro _ h17 ⟨rfl, M18⟩
   replace M18 : Mem _ _ ([(p10, _)] :: [(p4, _)] :: [(p7, _)] :: [(p1, _)] :: []) _ := M18
   have hl17 := hnx (0 + 1)
   refine WS.op rfl rfl ?_
   refine WS.st1 (M18.focus 3 rfl) [_] [_, _, _, _, _, _, _, _, _, _, _, _] rfl rfl rfl rfl rfl (Nat.le_of_ble_eq_true rfl) (Nat.le_of_ble_eq_true rfl) rfl rfl ?_
   intro h19 M20
   replace M20 : Mem _ _ ([(p1, _)] :: [(p10, _)] :: [(p4, _)] :: [(p7, _)] :: []) _ := M20
   refine WS.op rfl rfl ?_
   refine WS.st1 (M20.focus 0 rfl) [_] [_, _, _, _, _, _, _, _, _, _, _, _] rfl rfl rfl rfl rfl (Nat.le_of_ble_eq_true rfl) (Nat.le_of_ble_eq_true rfl) rfl rfl ?_
   intro h21 M22
   replace M22 : Mem _ _ ([(p1, _)] :: [(p10, _)] :: [(p4, _)] :: [(p7, _)] :: []) _ := M22
   refine WS.nil [(2, _), (4, _)] rfl ?_
   refine WC.seq ?_
   refine WC.run ?_
   refine WS.op rfl (op_lds [_, _, _, _, _, _, _, _, _, _, _, _] (M22.at 0 rfl) rfl (Nat.le_of_ble_eq_true rfl) rfl) ?_
   refine WS.st1 (M22.focus 3 rfl) [_, _, _, _, _, _, _, _, _, _, _, _] [_, _, _, _, _, _, _, _, _, _, _, _] rfl rfl rfl rfl rfl (Nat.le_of_ble_eq_true rfl) (Nat.le_of_ble_eq_true rfl) rfl rfl ?_
   intro h23 M24
   replace M24 : Mem _ _ ([(p7, _)] :: [(p1, _)] :: [(p10, _)] :: [(p4, _)] :: []) _ := M24
   refine WS.nil [(4, _)] rfl ?_
   refine WC.ret ?_
   refine ⟨[_], (res_cellN [_, _, _, _, _, _, _, _, _, _, _, _] rfl (M24.at 0 rfl) (Nat.le_of_ble_eq_true rfl) rfl res_nil), ?_⟩
   have hsw : SwC c (⟨c.op, c.se, c.sq, (nx ts 0), (nx ts (0 + 1)), c.ex, c.fr, c.to, c.li, c.le, c.tt, c.ps⟩ : Cmd) := { op := rfl, se := rfl, sq := rfl, li := rfl, le := rfl, tt := rfl, ky := fun z => absurd (by omega) z, va := fun z => absurd (by omega) z, ex := fun _ => rfl, ft := fun _ => ⟨rfl, rfl⟩, ps := fun _ => rfl, sw := SwP.refl _, tight := ⟨by first | omega | exact hnx _ | dsimp only; first | omega | exact hnx _, by first | omega | exact hnx _ | dsimp only; first | omega | exact hnx _, by first | omega | exact hnx _ | dsimp only; first | omega | exact hnx _, by first | omega | exact hnx _ | dsimp only; first | omega | exact hnx _, by first | omega | exact hnx _ | dsimp only; first | omega | exact hnx _, t6, t7⟩ }
   exact ⟨(⟨c.op, c.se, c.sq, (nx ts 0), (nx ts (0 + 1)), c.ex, c.fr, c.to, c.li, c.le, c.tt, c.ps⟩ : Cmd), _, rfl, hsw, .inl ⟨rfl, rfl, M24.bare.take 0⟩⟩
  ·
   refine WS.op rfl rfl (WS.nil [(2, _), (4, _), (6, _), (11, _), (12, _)] rfl ?_)
   refine WC.condF rfl ?_
   refine WC.seq ?_
   refine WC.seq ?_
   refine WC.run ?_
   refine WS.eqlN (a := (c.op).toNat) (b := 3) rfl rfl rfl (fun e21 => ?_) (fun e21 => ?_)
   ·
    refine WS.op rfl rfl (WS.nil [(2, _), (4, _), (6, _), (11, _), (20, _)] rfl ?_)
    refine WC.condT rfl ?_
    refine WC.skip ?_
    refine WC.condT rfl ?_
    refine WC.run ?_
    refine WS.op rfl rfl ?_
    refine WS.call rfl rfl rfl (next_ran (k := 0) A2 ((M14.focus 2 rfl).focus 1 rfl) (by omega)) ?_
    rintro _ h25 ⟨rfl, M26⟩
    replace M26 : Mem _ _ ([(p10, _)] :: [(p4, _)] :: [(p7, _)] :: [(p1, _)] :: []) _ := M26
    have hl24 := hnx 0
    refine WS.op rfl rfl ?_
    refine WS.st1 (M26.focus 3 rfl) [_] [_, _, _, _, _, _, _, _, _, _, _, _] rfl rfl rfl rfl rfl (Nat.le_of_ble_eq_true rfl) (Nat.le_of_ble_eq_true rfl) rfl rfl ?_
    intro h27 M28
    replace M28 : Mem _ _ ([(p1, _)] :: [(p10, _)] :: [(p4, _)] :: [(p7, _)] :: []) _ := M28
    refine WS.nil [(2, _), (4, _)] rfl ?_
    refine WC.seq ?_
    refine WC.run ?_
    refine WS.op rfl (op_lds [_, _, _, _, _, _, _, _, _, _, _, _] (M28.at 0 rfl) rfl (Nat.le_of_ble_eq_true rfl) rfl) ?_
    refine WS.st1 (M28.focus 3 rfl) [_, _, _, _, _, _, _, _, _, _, _, _] [_, _, _, _, _, _, _, _, _, _, _, _] rfl rfl rfl rfl rfl (Nat.le_of_ble_eq_true rfl) (Nat.le_of_ble_eq_true rfl) rfl rfl ?_
    intro h29 M30
    replace M30 : Mem _ _ ([(p7, _)] :: [(p1, _)] :: [(p10, _)] :: [(p4, _)] :: []) _ := M30
    refine WS.nil [(4, _)] rfl ?_
    refine WC.ret ?_
    refine ⟨[_], (res_cellN [_, _, _, _, _, _, _, _, _, _, _, _] rfl (M30.at 0 rfl) (Nat.le_of_ble_eq_true rfl) rfl res_nil), ?_⟩
    have hsw : SwC c (⟨c.op, c.se, c.sq, (nx ts 0), c.va, c.ex, c.fr, c.to, c.li, c.le, c.tt, c.ps⟩ : Cmd) := { op := rfl, se := rfl, sq := rfl, li := rfl, le := rfl, tt := rfl, ky := fun z => absurd (by omega) z, va := fun _ => rfl, ex := fun _ => rfl, ft := fun _ => ⟨rfl, rfl⟩, ps := fun _ => rfl, sw := SwP.refl _, tight := ⟨by first | omega | exact hnx _ | dsimp only; first | omega | exact hnx _, by first | omega | exact hnx _ | dsimp only; first | omega | exact hnx _, by first | omega | exact hnx _ | dsimp only; first | omega | exact hnx _, by first | omega | exact hnx _ | dsimp only; first | omega | exact hnx _, by first | omega | exact hnx _ | dsimp only; first | omega | exact hnx _, t6, t7⟩ }
    exact ⟨(⟨c.op, c.se, c.sq, (nx ts 0), c.va, c.ex, c.fr, c.to, c.li, c.le, c.tt, c.ps⟩ : Cmd), _, rfl, hsw, .inl ⟨rfl, rfl, M30.bare.take 0⟩⟩
   ·
    refine WS.op rfl rfl (WS.nil [(2, _), (4, _), (6, _), (11, _), (20, _)] rfl ?_)
    refine WC.condF rfl ?_
    refine WC.run ?_
    refine WS.eqlN (a := (c.op).toNat) (b := 8) rfl rfl rfl (fun e22 => ?_) (fun e22 => ?_)
    ·
     refine WS.op rfl rfl (WS.nil [(2, _), (4, _), (6, _), (11, _), (20, _)] rfl ?_)
     refine WC.condT rfl ?_
     refine WC.run ?_
     refine WS.op rfl rfl ?_
     refine WS.call rfl rfl rfl (next_ran (k := 0) A2 ((M14.focus 2 rfl).focus 1 rfl) (by omega)) ?_
     rintro _ h31 ⟨rfl, M32⟩
     replace M32 : Mem _ _ ([(p10, _)] :: [(p4, _)] :: [(p7, _)] :: [(p1, _)] :: []) _ := M32
     have hl24 := hnx 0
     refine WS.op rfl rfl ?_
     refine WS.st1 (M32.focus 3 rfl) [_] [_, _, _, _, _, _, _, _, _, _, _, _] rfl rfl rfl rfl rfl (Nat.le_of_ble_eq_true rfl) (Nat.le_of_ble_eq_true rfl) rfl rfl ?_
     intro h33 M34
     replace M34 : Mem _ _ ([(p1, _)] :: [(p10, _)] :: [(p4, _)] :: [(p7, _)] :: []) _ := M34
     refine WS.nil [(2, _), (4, _)] rfl ?_
     refine WC.seq ?_
     refine WC.run ?_
     refine WS.op rfl (op_lds [_, _, _, _, _, _, _, _, _, _, _, _] (M34.at 0 rfl) rfl (Nat.le_of_ble_eq_true rfl) rfl) ?_
     refine WS.st1 (M34.focus 3 rfl) [_, _, _, _, _, _, _, _, _, _, _, _] [_, _, _, _, _, _, _, _, _, _, _, _] rfl rfl rfl rfl rfl (Nat.le_of_ble_eq_true rfl) (Nat.le_of_ble_eq_true rfl) rfl rfl ?_
     intro h35 M36
     replace M36 : Mem _ _ ([(p7, _)] :: [(p1, _)] :: [(p10, _)] :: [(p4, _)] :: []) _ := M36
     refine WS.nil [(4, _)] rfl ?_
     refine WC.ret ?_
     refine ⟨[_], (res_cellN [_, _, _, _, _, _, _, _, _, _, _, _] rfl (M36.at 0 rfl) (Nat.le_of_ble_eq_true rfl) rfl res_nil), ?_⟩
     have hsw : SwC c (⟨c.op, c.se, c.sq, (nx ts 0), c.va, c.ex, c.fr, c.to, c.li, c.le, c.tt, c.ps⟩ : Cmd) := { op := rfl, se := rfl, sq := rfl, li := rfl, le := rfl, tt := rfl, ky := fun z => absurd (by omega) z, va := fun _ => rfl, ex := fun _ => rfl, ft := fun _ => ⟨rfl, rfl⟩, ps := fun _ => rfl, sw := SwP.refl _, tight := ⟨by first | omega | exact hnx _ | dsimp only; first | omega | exact hnx _, by first | omega | exact hnx _ | dsimp only; first | omega | exact hnx _, by first | omega | exact hnx _ | dsimp only; first | omega | exact hnx _, by first | omega | exact hnx _ | dsimp only; first | omega | exact hnx _, by first | omega | exact hnx _ | dsimp only; first | omega | exact hnx _, t6, t7⟩ }
     exact ⟨(⟨c.op, c.se, c.sq, (nx ts 0), c.va, c.ex, c.fr, c.to, c.li, c.le, c.tt, c.ps⟩ : Cmd), _, rfl, hsw, .inl ⟨rfl, rfl, M36.bare.take 0⟩⟩
    ·
     refine WS.op rfl rfl (WS.nil [(2, _), (4, _), (6, _), (11, _), (20, _)] rfl ?_)
     refine WC.condF rfl ?_
     refine WC.seq ?_
     refine WC.run ?_
     refine WS.eqlN (a := (c.op).toNat) (b := 4) rfl rfl rfl (fun e27 => ?_) (fun e27 => ?_)
     ·
      refine WS.op rfl rfl (WS.nil [(2, _), (4, _), (6, _), (11, _), (26, _)] rfl ?_)
      refine WC.condT rfl ?_
      refine WC.run ?_
      refine WS.op rfl rfl ?_
      refine WS.call rfl rfl rfl (next_ran (k := 0) A2 ((M14.focus 2 rfl).focus 1 rfl) (by omega)) ?_
      rintro _ h37 ⟨rfl, M38⟩
      replace M38 : Mem _ _ ([(p10, _)] :: [(p4, _)] :: [(p7, _)] :: [(p1, _)] :: []) _ := M38
      have hl29 := hnx 0
      refine WS.op rfl rfl ?_
      refine WS.call rfl rfl rfl (next_ran (k := (0 + 1)) A2 ((M38.focus 1 rfl).focus 1 rfl) (by omega)) ?_
      rintro _ h39 ⟨rfl, M40⟩
      replace M40 : Mem _ _ ([(p10, _)] :: [(p4, _)] :: [(p7, _)] :: [(p1, _)] :: []) _ := M40
      have hl31 := hnx (0 + 1)
      refine WS.op rfl rfl ?_
      refine WS.call rfl rfl rfl (next_ran (k := ((0 + 1) + 1)) A2 ((M40.focus 1 rfl).focus 1 rfl) (by omega)) ?_
      rintro _ h41 ⟨rfl, M42⟩
      replace M42 : Mem _ _ ([(p10, _)] :: [(p4, _)] :: [(p7, _)] :: [(p1, _)] :: []) _ := M42
      have hl33 := hnx ((0 + 1) + 1)
      refine WS.op rfl rfl ?_
      refine WS.st1 (M42.focus 3 rfl) [_] [_, _, _, _, _, _, _, _, _, _, _, _] rfl rfl rfl rfl rfl (Nat.le_of_ble_eq_true rfl) (Nat.le_of_ble_eq_true rfl) rfl rfl ?_
      intro h43 M44
      replace M44 : Mem _ _ ([(p1, _)] :: [(p10, _)] :: [(p4, _)] :: [(p7, _)] :: []) _ := M44
      refine WS.op rfl rfl ?_
      refine WS.st1 (M44.focus 0 rfl) [_] [_, _, _, _, _, _, _, _, _, _, _, _] rfl rfl rfl rfl rfl (Nat.le_of_ble_eq_true rfl) (Nat.le_of_ble_eq_true rfl) rfl rfl ?_
      intro h45 M46
      replace M46 : Mem _ _ ([(p1, _)] :: [(p10, _)] :: [(p4, _)] :: [(p7, _)] :: []) _ := M46
      refine WS.op rfl rfl ?_
      refine WS.st1 (M46.focus 0 rfl) [_] [_, _, _, _, _, _, _, _, _, _, _, _] rfl rfl rfl rfl rfl (Nat.le_of_ble_eq_true rfl) (Nat.le_of_ble_eq_true rfl) rfl rfl ?_
      intro h47 M48
      replace M48 : Mem _ _ ([(p1, _)] :: [(p10, _)] :: [(p4, _)] :: [(p7, _)] :: []) _ := M48
      refine WS.nil [(2, _), (4, _)] rfl ?_
      refine WC.seq ?_
      refine WC.run ?_
      refine WS.op rfl (op_lds [_, _, _, _, _, _, _, _, _, _, _, _] (M48.at 0 rfl) rfl (Nat.le_of_ble_eq_true rfl) rfl) ?_
      refine WS.st1 (M48.focus 3 rfl) [_, _, _, _, _, _, _, _, _, _, _, _] [_, _, _, _, _, _, _, _, _, _, _, _] rfl rfl rfl rfl rfl (Nat.le_of_ble_eq_true rfl) (Nat.le_of_ble_eq_true rfl) rfl rfl ?_
      intro h49 M50
      replace M50 : Mem _ _ ([(p7, _)] :: [(p1, _)] :: [(p10, _)] :: [(p4, _)] :: []) _ := M50
      refine WS.nil [(4, _)] rfl ?_
      refine WC.ret ?_
      refine ⟨[_], (res_cellN [_, _, _, _, _, _, _, _, _, _, _, _] rfl (M50.at 0 rfl) (Nat.le_of_ble_eq_true rfl) rfl res_nil), ?_⟩
      have hsw : SwC c (⟨c.op, c.se, c.sq, (nx ts 0), (nx ts ((0 + 1) + 1)), (nx ts (0 + 1)), c.fr, c.to, c.li, c.le, c.tt, c.ps⟩ : Cmd) := { op := rfl, se := rfl, sq := rfl, li := rfl, le := rfl, tt := rfl, ky := fun z => absurd (by omega) z, va := fun z => absurd (by omega) z, ex := fun z => absurd (by omega) z, ft := fun _ => ⟨rfl, rfl⟩, ps := fun _ => rfl, sw := SwP.refl _, tight := ⟨by first | omega | exact hnx _ | dsimp only; first | omega | exact hnx _, by first | omega | exact hnx _ | dsimp only; first | omega | exact hnx _, by first | omega | exact hnx _ | dsimp only; first | omega | exact hnx _, by first | omega | exact hnx _ | dsimp only; first | omega | exact hnx _, by first | omega | exact hnx _ | dsimp only; first | omega | exact hnx _, t6, t7⟩ }
      exact ⟨(⟨c.op, c.se, c.sq, (nx ts 0), (nx ts ((0 + 1) + 1)), (nx ts (0 + 1)), c.fr, c.to, c.li, c.le, c.tt, c.ps⟩ : Cmd), _, rfl, hsw, .inl ⟨rfl, rfl, M50.bare.take 0⟩⟩
     ·
      refine WS.op rfl rfl (WS.nil [(2, _), (4, _), (6, _), (11, _), (26, _)] rfl ?_)
      refine WC.condF rfl ?_
      refine WC.seq ?_
      refine WC.run ?_
      refine WS.eqlN (a := (c.op).toNat) (b := 9) rfl rfl rfl (fun e38 => ?_) (fun e38 => ?_)
      ·
       refine WS.op rfl rfl (WS.nil [(2, _), (4, _), (6, _), (11, _), (37, _)] rfl ?_)
       refine WC.condT rfl ?_
       refine WC.run ?_
       refine WS.op rfl rfl ?_
       refine WS.call rfl rfl rfl (next_ran (k := 0) A2 ((M14.focus 2 rfl).focus 1 rfl) (by omega)) ?_
       rintro _ h51 ⟨rfl, M52⟩
       replace M52 : Mem _ _ ([(p10, _)] :: [(p4, _)] :: [(p7, _)] :: [(p1, _)] :: []) _ := M52
       have hl40 := hnx 0
       refine WS.op rfl rfl ?_
       refine WS.call rfl rfl rfl (next_ran (k := (0 + 1)) A2 ((M52.focus 1 rfl).focus 1 rfl) (by omega)) ?_
       rintro _ h53 ⟨rfl, M54⟩
       replace M54 : Mem _ _ ([(p10, _)] :: [(p4, _)] :: [(p7, _)] :: [(p1, _)] :: []) _ := M54
       have hl42 := hnx (0 + 1)
       refine WS.op rfl rfl ?_
       refine WS.st1 (M54.focus 3 rfl) [_] [_, _, _, _, _, _, _, _, _, _, _, _] rfl rfl rfl rfl rfl (Nat.le_of_ble_eq_true rfl) (Nat.le_of_ble_eq_true rfl) rfl rfl ?_
       intro h55 M56
       replace M56 : Mem _ _ ([(p1, _)] :: [(p10, _)] :: [(p4, _)] :: [(p7, _)] :: []) _ := M56
       refine WS.op rfl rfl ?_
       refine WS.st1 (M56.focus 0 rfl) [_] [_, _, _, _, _, _, _, _, _, _, _, _] rfl rfl rfl rfl rfl (Nat.le_of_ble_eq_true rfl) (Nat.le_of_ble_eq_true rfl) rfl rfl ?_
       intro h57 M58
       replace M58 : Mem _ _ ([(p1, _)] :: [(p10, _)] :: [(p4, _)] :: [(p7, _)] :: []) _ := M58
       refine WS.nil [(2, _), (4, _)] rfl ?_
       refine WC.seq ?_
       refine WC.run ?_
       refine WS.op rfl (op_lds [_, _, _, _, _, _, _, _, _, _, _, _] (M58.at 0 rfl) rfl (Nat.le_of_ble_eq_true rfl) rfl) ?_
       refine WS.st1 (M58.focus 3 rfl) [_, _, _, _, _, _, _, _, _, _, _, _] [_, _, _, _, _, _, _, _, _, _, _, _] rfl rfl rfl rfl rfl (Nat.le_of_ble_eq_true rfl) (Nat.le_of_ble_eq_true rfl) rfl rfl ?_
       intro h59 M60
       replace M60 : Mem _ _ ([(p7, _)] :: [(p1, _)] :: [(p10, _)] :: [(p4, _)] :: []) _ := M60
       refine WS.nil [(4, _)] rfl ?_
       refine WC.ret ?_
       refine ⟨[_], (res_cellN [_, _, _, _, _, _, _, _, _, _, _, _] rfl (M60.at 0 rfl) (Nat.le_of_ble_eq_true rfl) rfl res_nil), ?_⟩
       have hsw : SwC c (⟨c.op, c.se, c.sq, c.ky, c.va, c.ex, (nx ts 0), (nx ts (0 + 1)), c.li, c.le, c.tt, c.ps⟩ : Cmd) := { op := rfl, se := rfl, sq := rfl, li := rfl, le := rfl, tt := rfl, ky := fun _ => rfl, va := fun _ => rfl, ex := fun _ => rfl, ft := fun z => absurd (by omega) z, ps := fun _ => rfl, sw := SwP.refl _, tight := ⟨by first | omega | exact hnx _ | dsimp only; first | omega | exact hnx _, by first | omega | exact hnx _ | dsimp only; first | omega | exact hnx _, by first | omega | exact hnx _ | dsimp only; first | omega | exact hnx _, by first | omega | exact hnx _ | dsimp only; first | omega | exact hnx _, by first | omega | exact hnx _ | dsimp only; first | omega | exact hnx _, t6, t7⟩ }
       exact ⟨(⟨c.op, c.se, c.sq, c.ky, c.va, c.ex, (nx ts 0), (nx ts (0 + 1)), c.li, c.le, c.tt, c.ps⟩ : Cmd), _, rfl, hsw, .inl ⟨rfl, rfl, M60.bare.take 0⟩⟩
      ·
       refine WS.op rfl rfl (WS.nil [(2, _), (4, _), (6, _), (11, _), (37, _)] rfl ?_)
       refine WC.condF rfl ?_
       refine WC.seq ?_
       refine WC.run ?_
       refine WS.eqlN (a := (c.op).toNat) (b := 5) rfl rfl rfl (fun e46 => ?_) (fun e46 => ?_)
       ·
        refine WS.op rfl rfl (WS.nil [(2, _), (4, _), (6, _), (45, _)] rfl ?_)
        refine WC.condT rfl ?_
        refine WC.seq ?_
        refine WC.run ?_
        refine WS.bsl M14 [] rfl rfl rfl rfl ?_
        intro p61 h62 M63
        refine WS.op rfl rfl (WS.op rfl (op_ld (M63.at 4 rfl) rfl rfl) ?_)
        refine WS.appL (K := KPart) (m := c.ps) (M63.focus 0 rfl) (Row.Src.sl (A.mono M63.sub)) rfl (by omega) (by omega) rfl rfl rfl (fun hps => ?_) (fun hps => ?_)
        ·
         refine WS.op rfl rfl (WS.nil [(2, _), (4, _), (6, _), (7, _)] rfl ?_)
         refine WC.seq ?_
         refine WC.seq ?_
         refine WC.run ?_
         refine WS.op rfl rfl (WS.nil [(2, _), (4, _), (6, _), (7, _), (8, _)] rfl ?_)
         refine WC.block ?_
         refine WC.unroll [(2, _), (4, _), (6, _), (7, _), (8, _)] rfl ?_
         refine WC.seq ?_
         refine WC.seq ?_
         refine WC.run ?_
         refine WS.op rfl rfl (WS.op rfl rfl (WS.op rfl rfl (WS.opV (.bool false) rfl rfl rfl (WS.nil [(2, _), (4, _), (6, _), (7, _), (8, _), (54, _)] rfl ?_))))
         refine WC.condF rfl ?_
         refine WC.exit ?_
         refine WC.run ?_
         refine WS.op rfl rfl (WS.op rfl rfl ?_)
         refine WS.st1 (M63.focus 4 rfl) [_] [_, _, _, _, _, _, _, _, _, _, _, _] rfl rfl rfl rfl rfl (Nat.le_of_ble_eq_true rfl) (Nat.le_of_ble_eq_true rfl) rfl rfl ?_
         intro h67 M68
         replace M68 : Mem _ _ ([(p1, _)] :: [(p61, _)] :: [(p10, _)] :: [(p7, _)] :: [(p4, _)] :: []) _ := M68
         refine WS.nil [(2, _), (4, _)] rfl ?_
         refine WC.seq ?_
         refine WC.run ?_
         refine WS.op rfl (op_lds [_, _, _, _, _, _, _, _, _, _, _, _] (M68.at 0 rfl) rfl (Nat.le_of_ble_eq_true rfl) rfl) ?_
         refine WS.st1 (M68.focus 3 rfl) [_, _, _, _, _, _, _, _, _, _, _, _] [_, _, _, _, _, _, _, _, _, _, _, _] rfl rfl rfl rfl rfl (Nat.le_of_ble_eq_true rfl) (Nat.le_of_ble_eq_true rfl) rfl rfl ?_
         intro h69 M70
         replace M70 : Mem _ _ ([(p7, _)] :: [(p1, _)] :: [(p61, _)] :: [(p10, _)] :: [(p4, _)] :: []) _ := M70
         refine WS.nil [(4, _)] rfl ?_
         refine WC.ret ?_
         refine ⟨[_], (res_cellN [_, _, _, _, _, _, _, _, _, _, _, _] rfl (M70.at 0 rfl) (Nat.le_of_ble_eq_true rfl) rfl res_nil), ?_⟩
         have hsw : SwC c (⟨c.op, c.se, c.sq, c.ky, c.va, c.ex, c.fr, c.to, c.li, c.le, c.tt, ([])⟩ : Cmd) := { op := rfl, se := rfl, sq := rfl, li := rfl, le := rfl, tt := rfl, ky := fun _ => rfl, va := fun _ => rfl, ex := fun _ => rfl, ft := fun _ => ⟨rfl, rfl⟩, ps := fun z => absurd (by omega) z, sw := by rw [hps]; exact SwP.refl [], tight := ⟨by first | omega | exact hnx _ | dsimp only; first | omega | exact hnx _, by first | omega | exact hnx _ | dsimp only; first | omega | exact hnx _, by first | omega | exact hnx _ | dsimp only; first | omega | exact hnx _, by first | omega | exact hnx _ | dsimp only; first | omega | exact hnx _, by first | omega | exact hnx _ | dsimp only; first | omega | exact hnx _, by simp, by intro p hp; cases hp⟩ }
         exact ⟨(⟨c.op, c.se, c.sq, c.ky, c.va, c.ex, c.fr, c.to, c.li, c.le, c.tt, ([])⟩ : Cmd), _, rfl, hsw, .inr ⟨_, _, rfl, ((M70.bare.focus 2 rfl).take 1)⟩⟩
        ·
         intro p66 h64 M65
         replace M65 : Mem _ _ ([(p66, _)] :: [(p61, _)] :: [(p10, _)] :: [(p7, _)] :: [(p4, _)] :: [(p1, _)] :: []) _ := M65
         refine WS.op rfl rfl (WS.nil [(2, _), (4, _), (6, _), (7, _)] rfl ?_)
         refine WC.seq ?_
         refine WC.seq ?_
         refine WC.run ?_
         refine WS.op rfl rfl (WS.nil [(2, _), (4, _), (6, _), (7, _), (8, _)] rfl ?_)
         refine WC.block ?_
         obtain ⟨L71, eL73, M72⟩ := Mem.name2 ((M65.bare.focus 2 rfl).focus 1 rfl)
         refine WC.loop (σ := List Part × Nat × Nat) (fun ((ls, k, i)) => [(2, (.pointer (some ⟨p1, 0, none⟩))), (4, (.pointer (some ⟨p7, 0, none⟩))), (6, (.func (.func 50) #[] #[(.pointer (some ⟨p10, 0, none⟩)), (.pointer (some ⟨p4, 0, none⟩))])), (7, (.slice (some ⟨p66, 0, none⟩) c.ps.length (2 * c.ps.length))), (8, (.int .i64 ((i : Nat) : Int)))]) (fun ((ls, k, i)) hh => Mem h hh ([(p66, ⟨KPart.flat ls, 3, false⟩)] :: [(p10, ⟨[(.int .i64 ((k : Nat) : Int))], 0, false⟩)] :: L71) [] ∧ SwP c.ps ls ∧ TightP ls ∧ i ≤ c.ps.length ∧ k ≤ 2 * i) (fun ((ls, k, i)) => c.ps.length - i) (c.ps, 0, 0) rfl ⟨(by exact M72), ?_⟩ ?_
         · exact ⟨SwP.refl _, t7, by omega, by omega⟩
         ·rintro ⟨ls, k, i⟩ h74 ⟨M75, ⟨hS, hT, hi1, hk⟩⟩
          subst eL73
          refine WC.env [(2, _), (4, _), (6, _), (7, _), (8, _)] rfl ?_
          have hlen := hS.1
          refine WC.seq ?_
          refine WC.seq ?_
          refine WC.run ?_
          refine WS.op rfl rfl (WS.op rfl rfl (WS.op rfl rfl ?_))
          refine WS.lssN (a := i) (b := c.ps.length) rfl rfl rfl (fun e54 => ?_) (fun e54 => ?_)
          ·
           refine WS.nil [(2, _), (4, _), (6, _), (7, _), (8, _), (54, _)] rfl ?_
           refine WC.condT rfl ?_
           refine WC.skip ?_
           refine WC.seq ?_
           refine WC.block ?_
           refine WC.seq ?_
           refine WC.run ?_
           refine WS.op rfl rfl (WS.op rfl rfl (WS.op rfl rfl ?_))
           refine WS.call rfl rfl rfl (next_ran (k := k) A2 ((M75.focus 4 rfl).focus 2 rfl) (by omega)) ?_
           rintro _ h76 ⟨rfl, M77⟩
           replace M77 : Mem _ _ ([(p10, _)] :: [(p4, _)] :: [(p66, _)] :: [(p61, _)] :: [(p7, _)] :: [(p1, _)] :: []) _ := M77
           have hl60 := hnx k
           obtain ⟨y61, hy61⟩ : ∃ y, (ls)[i]? = some y := ⟨_, List.getElem?_eq_getElem (show i < (ls).length by first | omega | (simp only [List.length_drop, List.length_take, List.length_append, List.length_cons, List.length_nil, List.length_singleton]; omega) | (simp only [List.length_drop, List.length_take, List.length_append, List.length_cons, List.length_nil, List.length_singleton] at *; omega))⟩
           refine WS.op rfl (op_iaV2 i rfl rfl (by first | omega | (simp only [List.length_drop, List.length_take, List.length_append, List.length_cons, List.length_nil, List.length_singleton]; omega) | (simp only [List.length_drop, List.length_take, List.length_append, List.length_cons, List.length_nil, List.length_singleton] at *; omega))) (WS.op rfl rfl ?_)
           refine WS.stE (K := KPart) (y' := { y61 with ky := (nx ts k) }) (M77.focus 2 rfl) hy61 (by decide) rfl rfl rfl rfl rfl rfl ?_
           intro h78 M79
           replace M79 : Mem _ _ ([(p66, _)] :: [(p10, _)] :: [(p4, _)] :: [(p61, _)] :: [(p7, _)] :: [(p1, _)] :: []) _ := M79
           refine WS.nil [(2, _), (4, _), (6, _), (7, _), (8, _)] rfl ?_
           refine WC.seq ?_
           refine WC.run ?_
           refine WS.op rfl rfl (WS.op rfl rfl ?_)
           have hq65 : (ls.set i ({ y61 with ky := nx ts k } : Part))[i]? = some ({ y61 with ky := nx ts k } : Part) := List.getElem?_set_self (List.getElem?_eq_some_iff.1 hy61).1
           refine WS.op rfl (op_iaV2 i rfl rfl (by omega)) (WS.op rfl rfl (WS.op rfl (op_ldH rfl (Row.ld (K := KPart) (k := 0) (M79.at 0 rfl) hq65 rfl)) ?_))
           refine WS.eqlN (a := (({ y61 with ky := nx ts k } : Part).op).toNat) (b := 2) rfl rfl rfl (fun e68 => ?_) (fun e68 => ?_)
           ·
            refine WS.nil [(2, _), (4, _), (6, _), (7, _), (8, _), (68, _)] rfl ?_
            refine WC.condT rfl ?_
            refine WC.run ?_
            refine WS.op rfl rfl (WS.op rfl rfl (WS.op rfl rfl ?_))
            refine WS.call rfl rfl rfl (next_ran (k := (k + 1)) A2 ((M79.focus 2 rfl).focus 2 rfl) (by omega)) ?_
            rintro _ h80 ⟨rfl, M81⟩
            replace M81 : Mem _ _ ([(p10, _)] :: [(p4, _)] :: [(p66, _)] :: [(p61, _)] :: [(p7, _)] :: [(p1, _)] :: []) _ := M81
            have hl72 := hnx (k + 1)
            refine WS.op rfl (op_iaV2 i rfl rfl (by omega)) (WS.op rfl rfl ?_)
            refine WS.stE (K := KPart) (y' := { ({ y61 with ky := nx ts k } : Part) with va := (nx ts (k + 1)) }) (M81.focus 2 rfl) hq65 (by decide) rfl rfl rfl rfl rfl rfl ?_
            intro h82 M83
            replace M83 : Mem _ _ ([(p66, _)] :: [(p10, _)] :: [(p4, _)] :: [(p61, _)] :: [(p7, _)] :: [(p1, _)] :: []) _ := M83
            refine WS.nil [(2, _), (4, _), (6, _), (7, _), (8, _)] rfl ?_
            refine WC.run ?_
            refine WS.op rfl rfl (WS.opV (.int .i64 (((i + 1) : Nat) : Int)) rfl rfl (add_i64 (a := i) (b := 1) (by omega)) (WS.op rfl rfl (WS.nil [(2, _), (4, _), (6, _), (7, _), (8, _)] rfl ?_)))
            refine ⟨(((ls.set i { y61 with ky := (nx ts k) }).set i { ({ y61 with ky := nx ts k } : Part) with va := (nx ts (k + 1)) }), ((k + 1) + 1), i + 1), rfl, ⟨(((((((M83.bare.focus 5 rfl).focus 3 rfl).focus 5 rfl).focus 5 rfl).focus 5 rfl).focus 5 rfl).take 6), ?_⟩, ?_⟩
            · exact ⟨(hS.set (y' := ({ y61 with ky := nx ts k } : Part)) hy61 rfl (fun _ => rfl)).set hq65 rfl (fun z => absurd (show (({ y61 with ky := nx ts k } : Part).op).toNat = 2 from e68) z), TightP_set (TightP_set hT ⟨hl60, (hT _ (List.mem_of_getElem? hy61)).2⟩) ⟨hl60, hl72⟩, by omega, by omega⟩
            · simp only []; omega
           ·
            refine WS.nil [(2, _), (4, _), (6, _), (7, _), (8, _), (68, _)] rfl ?_
            refine WC.condF rfl ?_
            refine WC.skip ?_
            refine WC.run ?_
            refine WS.op rfl rfl (WS.opV (.int .i64 (((i + 1) : Nat) : Int)) rfl rfl (add_i64 (a := i) (b := 1) (by omega)) (WS.op rfl rfl (WS.nil [(2, _), (4, _), (6, _), (7, _), (8, _)] rfl ?_)))
            refine ⟨((ls.set i { y61 with ky := (nx ts k) }), (k + 1), i + 1), rfl, ⟨(((((((M79.bare.focus 5 rfl).focus 3 rfl).focus 5 rfl).focus 5 rfl).focus 5 rfl).focus 5 rfl).take 6), ?_⟩, ?_⟩
            · exact ⟨hS.set hy61 rfl (fun _ => rfl), TightP_set hT ⟨hl60, (hT _ (List.mem_of_getElem? hy61)).2⟩, by omega, by omega⟩
            · simp only []; omega
          ·
           refine WS.nil [(2, _), (4, _), (6, _), (7, _), (8, _), (54, _)] rfl ?_
           refine WC.condF rfl ?_
           refine WC.exit ?_
           refine WC.run ?_
           refine WS.op rfl rfl (WS.op rfl rfl ?_)
           refine WS.st1 (M75.focus 5 rfl) [_] [_, _, _, _, _, _, _, _, _, _, _, _] rfl rfl rfl rfl rfl (Nat.le_of_ble_eq_true rfl) (Nat.le_of_ble_eq_true rfl) rfl rfl ?_
           intro h84 M85
           replace M85 : Mem _ _ ([(p1, _)] :: [(p66, _)] :: [(p10, _)] :: [(p61, _)] :: [(p7, _)] :: [(p4, _)] :: []) _ := M85
           refine WS.nil [(2, _), (4, _)] rfl ?_
           refine WC.seq ?_
           refine WC.run ?_
           refine WS.op rfl (op_lds [_, _, _, _, _, _, _, _, _, _, _, _] (M85.at 0 rfl) rfl (Nat.le_of_ble_eq_true rfl) rfl) ?_
           refine WS.st1 (M85.focus 4 rfl) [_, _, _, _, _, _, _, _, _, _, _, _] [_, _, _, _, _, _, _, _, _, _, _, _] rfl rfl rfl rfl rfl (Nat.le_of_ble_eq_true rfl) (Nat.le_of_ble_eq_true rfl) rfl rfl ?_
           intro h86 M87
           replace M87 : Mem _ _ ([(p7, _)] :: [(p1, _)] :: [(p66, _)] :: [(p10, _)] :: [(p61, _)] :: [(p4, _)] :: []) _ := M87
           refine WS.nil [(4, _)] rfl ?_
           refine WC.ret ?_
           refine ⟨[_], (res_cellN [_, _, _, _, _, _, _, _, _, _, _, _] rfl (M87.at 0 rfl) (Nat.le_of_ble_eq_true rfl) rfl res_nil), ?_⟩
           have hsw : SwC c (⟨c.op, c.se, c.sq, c.ky, c.va, c.ex, c.fr, c.to, c.li, c.le, c.tt, ls⟩ : Cmd) := { op := rfl, se := rfl, sq := rfl, li := rfl, le := rfl, tt := rfl, ky := fun _ => rfl, va := fun _ => rfl, ex := fun _ => rfl, ft := fun _ => ⟨rfl, rfl⟩, ps := fun z => absurd (by omega) z, sw := hS, tight := ⟨by first | omega | exact hnx _ | dsimp only; first | omega | exact hnx _, by first | omega | exact hnx _ | dsimp only; first | omega | exact hnx _, by first | omega | exact hnx _ | dsimp only; first | omega | exact hnx _, by first | omega | exact hnx _ | dsimp only; first | omega | exact hnx _, by first | omega | exact hnx _ | dsimp only; first | omega | exact hnx _, by have := hS.1; dsimp only; omega, hT⟩ }
           exact ⟨(⟨c.op, c.se, c.sq, c.ky, c.va, c.ex, c.fr, c.to, c.li, c.le, c.tt, ls⟩ : Cmd), _, rfl, hsw, .inr ⟨_, _, by rw [show Cmd.ps (⟨c.op, c.se, c.sq, c.ky, c.va, c.ex, c.fr, c.to, c.li, c.le, c.tt, ls⟩ : Cmd) = ls from rfl, hS.1], ((M87.bare.focus 2 rfl).take 1)⟩⟩
       ·
        refine WS.op rfl rfl (WS.nil [(2, _), (4, _), (6, _), (45, _)] rfl ?_)
        refine WC.condF rfl ?_
        refine WC.skip ?_
        refine WC.seq ?_
        refine WC.run ?_
        refine WS.op rfl (op_lds [_, _, _, _, _, _, _, _, _, _, _, _] (M14.at 3 rfl) rfl (Nat.le_of_ble_eq_true rfl) rfl) ?_
        refine WS.st1 (M14.focus 1 rfl) [_, _, _, _, _, _, _, _, _, _, _, _] [_, _, _, _, _, _, _, _, _, _, _, _] rfl rfl rfl rfl rfl (Nat.le_of_ble_eq_true rfl) (Nat.le_of_ble_eq_true rfl) rfl rfl ?_
        intro h88 M89
        replace M89 : Mem _ _ ([(p7, _)] :: [(p10, _)] :: [(p4, _)] :: [(p1, _)] :: []) _ := M89
        refine WS.nil [(4, _)] rfl ?_
        refine WC.ret ?_
        refine ⟨[_], (res_cellN [_, _, _, _, _, _, _, _, _, _, _, _] rfl (M89.at 0 rfl) (Nat.le_of_ble_eq_true rfl) rfl res_nil), ?_⟩
        have hsw : SwC c c := { op := rfl, se := rfl, sq := rfl, li := rfl, le := rfl, tt := rfl, ky := fun _ => rfl, va := fun _ => rfl, ex := fun _ => rfl, ft := fun _ => ⟨rfl, rfl⟩, ps := fun _ => rfl, sw := SwP.refl _, tight := ⟨by first | omega | exact hnx _ | dsimp only; first | omega | exact hnx _, by first | omega | exact hnx _ | dsimp only; first | omega | exact hnx _, by first | omega | exact hnx _ | dsimp only; first | omega | exact hnx _, by first | omega | exact hnx _ | dsimp only; first | omega | exact hnx _, by first | omega | exact hnx _ | dsimp only; first | omega | exact hnx _, t6, t7⟩ }
        exact ⟨c, _, rfl, hsw, .inl ⟨rfl, rfl, M89.bare.take 0⟩⟩
theorem held_flat {α : Type} {K : Row α} {l : List α} {p n es : Nat} (h3 : H) (q : ∀ z ∈ ([(p, ⟨K.flat l, es, false⟩)] : Seg), h3.get z.1 = some z.2) : K.Sl h3 (.slice (some ⟨p, 0, none⟩) l.length n) l := Row.Sl.own (q _ (List.mem_singleton.2 rfl))
end Go.Proofs.Yteikngjiaboeaaa.Wt
namespace Go.Proofs.Yteikngjiaboeaaa.Wt
open Go Go.Proofs.Yteikngjiaboeaaa.Am Go.Proofs.Yteikngjiaboeaaa.IrAll
set_option linter.unusedVariables false
set_option linter.unusedSimpArgs false
structure Frm where
  kd : UInt8
  t0 : UInt8
  t1 : UInt8
  t2 : UInt8
  t3 : UInt8
  t4 : UInt8
  t5 : UInt8
  t6 : UInt8
  t7 : UInt8
  c : Cmd
  o : Oper
  deriving DecidableEq
def Frm.cells (f : Frm) (V : Value) : List Value := [(.int .u8 (((f.kd).toNat : Nat) : Int)), (.int .u8 (((f.t0).toNat : Nat) : Int)), (.int .u8 (((f.t1).toNat : Nat) : Int)), (.int .u8 (((f.t2).toNat : Nat) : Int)), (.int .u8 (((f.t3).toNat : Nat) : Int)), (.int .u8 (((f.t4).toNat : Nat) : Int)), (.int .u8 (((f.t5).toNat : Nat) : Int)), (.int .u8 (((f.t6).toNat : Nat) : Int)), (.int .u8 (((f.t7).toNat : Nat) : Int)), (.int .u8 (((f.c.op).toNat : Nat) : Int)), (.int .u64 (((f.c.se).toNat : Nat) : Int)), (.int .u64 (((f.c.sq).toNat : Nat) : Int)), (.string (bs f.c.ky)), (.string (bs f.c.va)), (.string (bs f.c.ex)), (.string (bs f.c.fr)), (.string (bs f.c.to)), (.int .u8 (((f.c.li).toNat : Nat) : Int)), (.int .u64 (((f.c.le).toNat : Nat) : Int)), (.int .u64 (((f.c.tt).toNat : Nat) : Int)), V, (.int .u8 (((f.o.op).toNat : Nat) : Int)), (.int .u8 (((f.o.sl).toNat : Nat) : Int)), (.int .u8 (((f.o.t0).toNat : Nat) : Int)), (.int .u8 (((f.o.t1).toNat : Nat) : Int)), (.int .u8 (((f.o.t2).toNat : Nat) : Int)), (.int .u8 (((f.o.t3).toNat : Nat) : Int)), (.int .u8 (((f.o.t4).toNat : Nat) : Int)), (.int .u8 (((f.o.t5).toNat : Nat) : Int)), (.int .u8 (((f.o.t6).toNat : Nat) : Int)), (.int .u8 (((f.o.t7).toNat : Nat) : Int)), (.int .u8 (((f.o.ro).toNat : Nat) : Int)), (.int .i64 (f.o.ks).toInt), (.int .i64 (f.o.bt).toInt), (.int .i64 (f.o.ra).toInt), (.int .i64 (f.o.bu).toInt), (.int .u8 (((f.o.nd).toNat : Nat) : Int))]
def Frm.val (f : Frm) (V : Value) : Value := .agg (f.cells V).toArray
variable {h base : H} {L : List Seg} {R : List Nat}
theorem or_u64 {a b : Nat} (ha : a < 18446744073709551616) (hb : b < 18446744073709551616) : Value.int .u64 (IntKind.u64.wrap ((BitVec.ofInt IntKind.u64.bits (a : Int) ||| BitVec.ofInt IntKind.u64.bits (b : Int)).toNat : Nat)) = .int .u64 ((a ||| b : Nat) : Int) := by
  congr 1; exact bvo64 a b ha hb
theorem or_lt64 {a b : Nat} (ha : a < 18446744073709551616) (hb : b < 18446744073709551616) : a ||| b < 18446744073709551616 := Nat.or_lt_two_pow (n := 64) ha hb
theorem parts_lenF {ps : List Part} (h : FitP ps) : (ps.flatMap partB).length ≤ ps.length * 600100 := by
  induction ps with
  | nil => simp
  | cons p ps ih =>
    have h1 := ih fun x hx => h x (by simp [hx])
    have hp := partB_len (h p (by simp))
    simp only [List.flatMap_cons, List.length_append, List.length_cons]; omega
theorem encC_lenF {c : Cmd} (hm : MayC c) (ht : Fit c) : (encC c).length ≤ 10000000 := by
  obtain ⟨t1, t2, t3, t4, t5, t6, t7⟩ := ht
  have v1 := vb_len c.se.toNat_lt
  have v2 := vb_len c.sq.toNat_lt
  have v3 := vb_len c.tt.toNat_lt
  have v4 := vb_len c.le.toNat_lt
  have s1 := sb_len3 t1
  have s2 := sb_len3 t2
  have s3 := sb_len3 t3
  have s4 := sb_len3 t4
  have s5 := sb_len3 t5
  have p1 := parts_lenF t7
  have hb : (bodyB c).length ≤ 9000000 := by
    unfold bodyB
    split
    · omega
    split
    · simp only [List.length_append]; omega
    split
    · omega
    split
    · simp only [List.length_append]; omega
    split
    · have := (hm.2.2.1 (by assumption)).2; simp only [List.length_append, List.length_cons, List.length_nil]; omega
    split
    · omega
    split
    · simp only [List.length_append, List.length_cons, List.length_nil]; omega
    · simp
  simp only [encC, headB, List.length_append, List.length_cons, List.length_nil]; omega
theorem wrC_lenF {c : Cmd} (ht : Fit c) : (if mayB c then encC c else []).length ≤ 10000000 := by
  split
  · rename_i q; exact encC_lenF (of_decide_eq_true q) ht
  · simp
theorem encC_ne (c : Cmd) : encC c ≠ [] := by simp [encC, headB]
theorem encO_ne (o : Oper) : encO o ≠ [] := by rw [encO_cons]; simp
theorem wrC_nil {c : Cmd} (h : (if mayB c then encC c else []) = []) : ¬ MayC c := fun q => by
  rw [if_pos (show mayB c = true from decide_eq_true q)] at h; exact encC_ne c h
theorem wrO_nil {o : Oper} (h : (if mayOB o then encO o else []) = []) : ¬ MayO o := fun q => by
  rw [if_pos (show mayOB o = true from decide_eq_true q)] at h; exact encO_ne o h
def OpOnly (c : Cmd) : Prop := c = ⟨c.op, 0, 0, [], [], [], [], [], 0, 0, 0, []⟩
instance (c : Cmd) : Decidable (OpOnly c) := by unfold OpOnly; infer_instance
def MayF (f : Frm) : Prop := (f.kd.toNat = 1 ∧ f.o = zeroO2 ∧ MayC f.c) ∨ (f.kd.toNat = 2 ∧ f.c = zeroC ∧ MayO f.o)
instance (f : Frm) : Decidable (MayF f) := by unfold MayF; infer_instance
def mayFB (f : Frm) : Bool := decide (MayF f)
def tailF (f : Frm) : List UInt8 := if f.kd.toNat = 1 then encC f.c else encO f.o
def encF (f : Frm) : List UInt8 := [f.kd, f.t0, f.t1, f.t2, f.t3, f.t4, f.t5, f.t6, f.t7] ++ tailF f
theorem tailF_1 {f : Frm} (h : f.kd.toNat = 1) : tailF f = encC f.c := if_pos h
theorem tailF_2 {f : Frm} (h : f.kd.toNat = 2) : tailF f = encO f.o := if_neg (by omega)
def GoodF (f : Frm) : Prop := MayF f ∧ Fit f.c
def zeroF : Frm := ⟨0, 0, 0, 0, 0, 0, 0, 0, 0, zeroC, zeroO2⟩
theorem encF_pf : PF GoodF encF := by
  rintro a b x y ⟨ma, fa⟩ ⟨mb, fb⟩ h
  simp only [encF, List.cons_append, List.nil_append, List.append_assoc, List.cons.injEq] at h
  obtain ⟨h0, h1, h2, h3, h4, h5, h6, h7, h8, h⟩ := h
  have ho : a.kd.toNat = b.kd.toNat := by rw [h0]
  have key : a.c = b.c ∧ a.o = b.o ∧ x = y := by
    rcases ma with ⟨a1, a2, a3⟩ | ⟨a1, a2, a3⟩
    · rcases mb with ⟨b1, b2, b3⟩ | ⟨b1, b2, b3⟩
      · rw [tailF_1 a1, tailF_1 b1] at h
        obtain ⟨e1, e2⟩ := encC_pf _ _ _ _ ⟨a3, fa⟩ ⟨b3, fb⟩ h
        exact ⟨e1, by rw [a2, b2], e2⟩
      · omega
    · rcases mb with ⟨b1, b2, b3⟩ | ⟨b1, b2, b3⟩
      · omega
      · rw [tailF_2 a1, tailF_2 b1] at h
        obtain ⟨e1, e2⟩ := encO_pf _ _ _ _ a3 b3 h
        exact ⟨by rw [a2, b2], e1, e2⟩
  obtain ⟨k1, k2, k3⟩ := key
  refine ⟨?_, k3⟩
  obtain ⟨⟩ := a; obtain ⟨⟩ := b
  simp only at *
  rw [h0, h1, h2, h3, h4, h5, h6, h7, h8, k1, k2]
theorem or_zero {a b : Nat} (h : a ||| b = 0) : a = 0 ∧ b = 0 := by
  have h1 : a ≤ a ||| b := Nat.left_le_or
  have h2 : b ≤ a ||| b := Nat.right_le_or
  omega
theorem blank_ran (W : Mem h h [] []) {c : Cmd} {V : Value} (A : KPart.Sl h V c.ps) (hf : Fit c) : Cll tab0 25 [c.val V] h (fun v h2 => v = .bool (decide (OpOnly c)) ∧ Mem h h2 [] []) := by
  obtain ⟨P, n, rfl⟩ := A.shape
  obtain ⟨f1, f2, f3, f4, f5, f6, f7⟩ := hf
  refine Cll.code rfl rfl ?_
  refine WC.env [(0, _)] rfl ?_
  refine WC.seq ?_
  refine WC.run ?_
  refine WS.box W [_, _, _, _, _, _, _, _, _, _, _, _] rfl rfl rfl rfl ?_
  intro p1 h2 M3
  refine WS.op rfl rfl (WS.nil [(1, _)] rfl ?_)
  refine WC.seq ?_
  refine WC.seq ?_
  refine WC.run ?_
  refine WS.op rfl rfl (WS.op rfl (op_ld (M3.at 0 rfl) rfl rfl) (WS.op rfl rfl (WS.op rfl (op_ld (M3.at 0 rfl) rfl rfl) (WS.op rfl (op_sadd (l := c.ky) (m := c.va) rfl rfl (by first | omega | (simp only [List.length_append]; omega))) (WS.op rfl rfl (WS.op rfl (op_ld (M3.at 0 rfl) rfl rfl) (WS.op rfl (op_sadd (l := (c.ky ++ c.va)) (m := c.ex) rfl rfl (by first | omega | (simp only [List.length_append]; omega))) (WS.op rfl rfl (WS.op rfl (op_ld (M3.at 0 rfl) rfl rfl) ?_)))))))))
  refine WS.op rfl (op_sadd (l := ((c.ky ++ c.va) ++ c.ex)) (m := c.fr) rfl rfl (by first | omega | (simp only [List.length_append]; omega))) (WS.op rfl rfl (WS.op rfl (op_ld (M3.at 0 rfl) rfl rfl) (WS.op rfl (op_sadd (l := (((c.ky ++ c.va) ++ c.ex) ++ c.fr)) (m := c.to) rfl rfl (by first | omega | (simp only [List.length_append]; omega))) ?_)))
  refine WS.sneq (l := ((((c.ky ++ c.va) ++ c.ex) ++ c.fr) ++ c.to)) (m := []) rfl rfl rfl (fun e17 => ?_) (fun e17 => ?_)
  ·
   refine WS.op rfl rfl (WS.off rfl (WS.off rfl (WS.off rfl (WS.off rfl (WS.op rfl rfl (WS.op rfl rfl (WS.off rfl (WS.off rfl (WS.off rfl ?_)))))))))
   refine WS.op rfl rfl (WS.nil [(1, _), (28, _)] rfl ?_)
   refine WC.condT rfl ?_
   refine WC.seq ?_
   refine WC.run ?_
   refine WS.op rfl rfl (WS.nil [(2, _)] rfl ?_)
   refine WC.ret ?_
   refine ⟨[_], (res_tmp rfl res_nil), ?_⟩
   have hno : ¬ OpOnly c := by
     intro q
     obtain ⟨op, se, sq, ky, va, ex, fr, to, li, le, tt, ps⟩ := c
     unfold OpOnly at q
     simp only [Cmd.mk.injEq, true_and] at q
     obtain ⟨q1, q2, q3, q4, q5, q6, q7, q8, q9, q10, q11⟩ := q
     subst q1 q2 q3 q4 q5 q6 q7 q8 q9 q10 q11
     first | exact absurd rfl e17 | (exfalso; simp at e22; done) | exact absurd rfl e27 | (exact absurd (by simp) e40)
   exact ⟨vbf hno, M3.bare.take 0⟩
  ·
   refine WS.op rfl rfl (WS.op rfl rfl (WS.op rfl (op_ld (M3.at 0 rfl) rfl rfl) (WS.op rfl (op_lenVS A rfl) ?_)))
   refine WS.gtrN (a := (c.ps).length) (b := 0) rfl rfl rfl (fun e22 => ?_) (fun e22 => ?_)
   ·
    refine WS.op rfl rfl (WS.op rfl rfl (WS.off rfl (WS.off rfl (WS.off rfl (WS.op rfl rfl (WS.nil [(1, _), (28, _)] rfl ?_))))))
    refine WC.condT rfl ?_
    refine WC.seq ?_
    refine WC.run ?_
    refine WS.op rfl rfl (WS.nil [(2, _)] rfl ?_)
    refine WC.ret ?_
    refine ⟨[_], (res_tmp rfl res_nil), ?_⟩
    have hno : ¬ OpOnly c := by
      intro q
      obtain ⟨op, se, sq, ky, va, ex, fr, to, li, le, tt, ps⟩ := c
      unfold OpOnly at q
      simp only [Cmd.mk.injEq, true_and] at q
      obtain ⟨q1, q2, q3, q4, q5, q6, q7, q8, q9, q10, q11⟩ := q
      subst q1 q2 q3 q4 q5 q6 q7 q8 q9 q10 q11
      first | exact absurd rfl e17 | (exfalso; simp at e22; done) | exact absurd rfl e27 | (exact absurd (by simp) e40)
    exact ⟨vbf hno, M3.bare.take 0⟩
   ·
    refine WS.op rfl rfl (WS.op rfl rfl (WS.op rfl rfl (WS.op rfl (op_ld (M3.at 0 rfl) rfl rfl) ?_)))
    refine WS.neqN (a := (c.li).toNat) (b := 0) rfl rfl rfl (fun e27 => ?_) (fun e27 => ?_)
    ·
     refine WS.op rfl rfl (WS.nil [(1, _), (28, _)] rfl ?_)
     refine WC.condT rfl ?_
     refine WC.seq ?_
     refine WC.run ?_
     refine WS.op rfl rfl (WS.nil [(2, _)] rfl ?_)
     refine WC.ret ?_
     refine ⟨[_], (res_tmp rfl res_nil), ?_⟩
     have hno : ¬ OpOnly c := by
       intro q
       obtain ⟨op, se, sq, ky, va, ex, fr, to, li, le, tt, ps⟩ := c
       unfold OpOnly at q
       simp only [Cmd.mk.injEq, true_and] at q
       obtain ⟨q1, q2, q3, q4, q5, q6, q7, q8, q9, q10, q11⟩ := q
       subst q1 q2 q3 q4 q5 q6 q7 q8 q9 q10 q11
       first | exact absurd rfl e17 | (exfalso; simp at e22; done) | exact absurd rfl e27 | (exact absurd (by simp) e40)
     exact ⟨vbf hno, M3.bare.take 0⟩
    ·
     refine WS.op rfl rfl (WS.nil [(1, _), (28, _)] rfl ?_)
     refine WC.condF rfl ?_
     refine WC.skip ?_
     refine WC.seq ?_
     refine WC.run ?_
     refine WS.op rfl rfl (WS.op rfl (op_ld (M3.at 0 rfl) rfl rfl) (WS.op rfl rfl (WS.op rfl (op_ld (M3.at 0 rfl) rfl rfl) (WS.opV (.int .u64 ((((c.se).toNat ||| (c.sq).toNat) : Nat) : Int)) rfl rfl (or_u64 (a := (c.se).toNat) (b := (c.sq).toNat) (by have := UInt64.toNat_lt (c.se); omega) (by have := UInt64.toNat_lt (c.sq); omega)) (WS.op rfl rfl (WS.op rfl (op_ld (M3.at 0 rfl) rfl rfl) (WS.opV (.int .u64 (((((c.se).toNat ||| (c.sq).toNat) ||| (c.le).toNat) : Nat) : Int)) rfl rfl (or_u64 (a := ((c.se).toNat ||| (c.sq).toNat)) (b := (c.le).toNat) (by have := or_lt64 (a := (c.se).toNat) (b := (c.sq).toNat) (by have := UInt64.toNat_lt (c.se); omega) (by have := UInt64.toNat_lt (c.sq); omega); omega) (by have := UInt64.toNat_lt (c.le); omega)) (WS.op rfl rfl (WS.op rfl (op_ld (M3.at 0 rfl) rfl rfl) ?_)))))))))
     refine WS.opV (.int .u64 ((((((c.se).toNat ||| (c.sq).toNat) ||| (c.le).toNat) ||| (c.tt).toNat) : Nat) : Int)) rfl rfl (or_u64 (a := (((c.se).toNat ||| (c.sq).toNat) ||| (c.le).toNat)) (b := (c.tt).toNat) (by have := or_lt64 (a := ((c.se).toNat ||| (c.sq).toNat)) (b := (c.le).toNat) (by have := or_lt64 (a := (c.se).toNat) (b := (c.sq).toNat) (by have := UInt64.toNat_lt (c.se); omega) (by have := UInt64.toNat_lt (c.sq); omega); omega) (by have := UInt64.toNat_lt (c.le); omega); omega) (by have := UInt64.toNat_lt (c.tt); omega)) ?_
     refine WS.eqlN (a := ((((c.se).toNat ||| (c.sq).toNat) ||| (c.le).toNat) ||| (c.tt).toNat)) (b := 0) rfl rfl rfl (fun e40 => ?_) (fun e40 => ?_)
     ·
      refine WS.op rfl rfl (WS.nil [(2, _)] rfl ?_)
      refine WC.ret ?_
      refine ⟨[_], (res_tmp rfl res_nil), ?_⟩
      obtain ⟨z3, z4⟩ := or_zero e40
      obtain ⟨z2, z5⟩ := or_zero z3
      obtain ⟨z1, z6⟩ := or_zero z2
      have e17b := e17
      simp only [List.append_eq_nil_iff] at e17b
      obtain ⟨⟨⟨⟨w1, w2⟩, w3⟩, w4⟩, w5⟩ := e17b
      have w6 : c.ps = [] := List.eq_nil_of_length_eq_zero (by omega)
      have w7 : c.li = 0 := u8_0 e27
      exact ⟨vbt (by unfold OpOnly; obtain ⟨⟩ := c; simp only at *; rw [u64_0 z1, u64_0 z6, u64_0 z5, u64_0 z4, w1, w2, w3, w4, w5, w6, w7]), M3.bare.take 0⟩
     ·
      refine WS.op rfl rfl (WS.nil [(2, _)] rfl ?_)
      refine WC.ret ?_
      refine ⟨[_], (res_tmp rfl res_nil), ?_⟩
      have hno : ¬ OpOnly c := by
        intro q
        obtain ⟨op, se, sq, ky, va, ex, fr, to, li, le, tt, ps⟩ := c
        unfold OpOnly at q
        simp only [Cmd.mk.injEq, true_and] at q
        obtain ⟨q1, q2, q3, q4, q5, q6, q7, q8, q9, q10, q11⟩ := q
        subst q1 q2 q3 q4 q5 q6 q7 q8 q9 q10 q11
        first | exact absurd rfl e17 | (exfalso; simp at e22; done) | exact absurd rfl e27 | (exact absurd (by simp) e40)
      exact ⟨vbf hno, M3.bare.take 0⟩
set_option maxRecDepth 8000 in
theorem WriteF_ran (W : Mem h h [] []) {f : Frm} {V : Value} (A : KPart.Sl h V f.c.ps) (hf : Fit f.c) : Cll tab0 10 [f.val V] h (fun v h2 => v = .string (bs (if mayFB f then encF f else [])) ∧ Mem h h2 [] []) := by
  obtain ⟨P, n, rfl⟩ := A.shape
  have hwc := wrC_lenF hf
  have hwo := wrO_len (c := f.o)
  refine Cll.code rfl rfl ?_
  refine WC.env [(0, _)] rfl ?_
  refine WC.seq ?_
  refine WC.run ?_
  refine WS.box W [_, _, _, _, _, _, _, _, _, _, _, _, _, _, _, _, _, _, _, _, _, _, _, _, _, _, _, _, _, _, _, _, _, _, _, _, _] rfl rfl rfl rfl ?_
  intro p1 h2 M3
  refine WS.op rfl rfl (WS.nil [(1, _)] rfl ?_)
  refine WC.seq ?_
  refine WC.run ?_
  refine WS.op rfl rfl (WS.op rfl rfl (WS.op rfl (op_ld (M3.at 0 rfl) rfl rfl) ?_))
  refine WS.eqlN (a := (f.c.op).toNat) (b := 0) rfl rfl rfl (fun e8 => ?_) (fun e8 => ?_)
  ·
   refine WS.op rfl rfl (WS.op rfl rfl (WS.op rfl (op_lds [_, _, _, _, _, _, _, _, _, _, _, _] (M3.at 0 rfl) rfl (Nat.le_of_ble_eq_true rfl) rfl) ?_))
   refine WS.call rfl rfl rfl (blank_ran M3.here (c := f.c) (A.mono M3.sub) (by assumption)) ?_
   rintro _ h4 ⟨rfl, N5⟩
   have M6 := M3.trans N5
   refine WS.op rfl rfl (WS.op rfl rfl (WS.nil [(1, _), (3, _)] rfl ?_))
   refine WC.seq ?_
   refine WC.run ?_
   refine WS.op rfl rfl (WS.nil [(1, _), (3, _), (4, _)] rfl ?_)
   refine WC.seq ?_
   refine WC.block ?_
   refine WC.seq ?_
   refine WC.run ?_
   refine WS.op rfl rfl (WS.op rfl (op_ld (M6.at 0 rfl) rfl rfl) ?_)
   refine WS.eqlN (a := (f.kd).toNat) (b := 1) rfl rfl rfl (fun e17 => ?_) (fun e17 => ?_)
   ·
    refine WS.op rfl rfl (WS.op rfl rfl (WS.op rfl (op_lds [_, _, _, _, _, _, _, _, _, _, _, _, _, _, _, _] (M6.at 0 rfl) rfl (Nat.le_of_ble_eq_true rfl) rfl) (WS.opV (.agg #[(.int .u8 (0 : Int)), (.int .u8 (0 : Int)), (.int .u8 (0 : Int)), (.int .u8 (0 : Int)), (.int .u8 (0 : Int)), (.int .u8 (0 : Int)), (.int .u8 (0 : Int)), (.int .u8 (0 : Int)), (.int .u8 (0 : Int)), (.int .u8 (0 : Int)), (.int .u8 (0 : Int)), (.int .i64 (0 : Int)), (.int .i64 (0 : Int)), (.int .i64 (0 : Int)), (.int .i64 (0 : Int)), (.int .u8 (0 : Int))]) rfl rfl rfl ?_)))
    refine WS.eqqD (p := f.o = (⟨0, 0, 0, 0, 0, 0, 0, 0, 0, 0, 0, 0, 0, 0, 0, 0⟩ : Oper)) rfl rfl rfl (Oper_eqV f.o (⟨0, 0, 0, 0, 0, 0, 0, 0, 0, 0, 0, 0, 0, 0, 0, 0⟩ : Oper)) (fun e22 => ?_) (fun e22 => ?_)
    ·
     refine WS.op rfl rfl (WS.op rfl rfl (WS.nil [(1, _), (3, _), (4, _), (14, _)] rfl ?_))
     refine WC.condT rfl ?_
     refine WC.run ?_
     refine WS.op rfl rfl (WS.op rfl (op_lds [_, _, _, _, _, _, _, _, _, _, _, _] (M6.at 0 rfl) rfl (Nat.le_of_ble_eq_true rfl) rfl) ?_)
     refine WS.call rfl rfl rfl (Write_ran M6.here (c := f.c) (A.mono M6.sub) (by assumption)) ?_
     rintro _ h7 ⟨rfl, N8⟩
     have M9 := M6.trans N8
     refine WS.op rfl rfl (WS.nil [(1, _), (4, _)] rfl ?_)
     refine WC.seq ?_
     refine WC.seq ?_
     refine WC.run ?_
     refine WS.op rfl rfl ?_
     refine WS.seql (l := (if mayB f.c then encC f.c else [])) (m := []) rfl rfl rfl (fun e38 => ?_) (fun e38 => ?_)
     ·
      refine WS.nil [(1, _), (4, _), (38, _)] rfl ?_
      refine WC.condT rfl ?_
      refine WC.seq ?_
      refine WC.run ?_
      refine WS.op rfl rfl (WS.nil [(2, _)] rfl ?_)
      refine WC.ret ?_
      refine ⟨[_], (res_tmp rfl res_nil), ?_⟩
      have hn : ¬ MayF f := by
        rintro (⟨q1, q2, q3⟩ | ⟨q1, q2, q3⟩)
        · first
          | omega
          | exact absurd q2 (by assumption)
          | exact wrC_nil e38 q3
        · first
          | omega
          | (rw [q2] at e8; exact absurd rfl e8)
          | exact absurd (show OpOnly f.c by rw [q2]; rfl) (of_decide_eq_false (by assumption))
          | exact wrO_nil e38 q3
      exact ⟨by rw [if_neg (show ¬ mayFB f = true from fun q => hn (of_decide_eq_true q))]; rfl, M9.bare.take 0⟩
     ·
      refine WS.nil [(1, _), (4, _), (38, _)] rfl ?_
      refine WC.condF rfl ?_
      refine WC.skip ?_
      refine WC.seq ?_
      refine WC.draw M9 [2] rfl ?_
      intro rb10 h11 M12
      refine WS.op rfl rfl (WS.op rfl (op_ld (M12.at 0 rfl) rfl rfl) (WS.op rfl rfl (WS.opV (.slice (some ⟨p1, 1, none⟩) 8 17) rfl rfl rfl (WS.op rfl (op_cvB (l := [f.t0, f.t1, f.t2, f.t3, f.t4, f.t5, f.t6, f.t7]) (M12.at 0 rfl) rfl rfl (Nat.le_of_ble_eq_true rfl) rfl) (WS.op rfl rfl ?_)))))
      refine WS.bslA M12 [_] 0 rfl rfl rfl rfl rfl ?_
      intro h14 M15
      refine WS.opR rfl rfl (op_cvB (l := [f.kd]) (M15.at 0 rfl) rfl rfl (Nat.le_of_ble_eq_true rfl) rfl) (WS.op rfl (op_sadd (l := [f.kd]) (m := [f.t0, f.t1, f.t2, f.t3, f.t4, f.t5, f.t6, f.t7]) rfl rfl (by first | omega | (simp only [List.length_append, List.length_cons, List.length_nil]; omega))) (WS.op rfl (op_sadd (l := ([f.kd] ++ [f.t0, f.t1, f.t2, f.t3, f.t4, f.t5, f.t6, f.t7])) (m := (if mayB f.c then encC f.c else [])) rfl rfl (by first | omega | (simp only [List.length_append, List.length_cons, List.length_nil]; omega))) (WS.op rfl rfl (WS.nil [(2, _)] rfl ?_))))
      refine WC.ret ?_
      refine ⟨[_], (res_tmp rfl res_nil), ?_⟩
      have hM := wrC_t e38
      have hF : mayFB f = true := decide_eq_true (.inl ⟨by omega, by assumption, of_decide_eq_true hM⟩)
      exact ⟨by rw [if_pos hF]; unfold encF; rw [tailF_1 (by omega), if_pos hM]; rfl, M15.bare.bare.take 0⟩
    ·
     refine WS.op rfl rfl (WS.op rfl rfl (WS.nil [(1, _), (3, _), (4, _), (14, _)] rfl ?_))
     refine WC.condF rfl ?_
     refine WC.seq ?_
     refine WC.run ?_
     refine WS.op rfl rfl (WS.op rfl (op_ld (M6.at 0 rfl) rfl rfl) ?_)
     refine WS.eqlN (a := (f.kd).toNat) (b := 2) rfl rfl rfl (fun e30 => ?_) (fun e30 => ?_)
     ·
      refine WS.op rfl rfl (WS.op rfl rfl (WS.op rfl rfl (WS.op rfl rfl (WS.nil [(1, _), (4, _), (27, _)] rfl ?_))))
      cases hb1 : (decide (OpOnly f.c))
      ·
       refine WC.condF rfl ?_
       refine WC.skip ?_
       refine WC.seq ?_
       refine WC.seq ?_
       refine WC.run ?_
       refine WS.op rfl rfl ?_
       refine WS.seql (l := []) (m := []) rfl rfl rfl (fun e38 => ?_) (fun e38 => ?_)
       ·
        refine WS.nil [(1, _), (4, _), (38, _)] rfl ?_
        refine WC.condT rfl ?_
        refine WC.seq ?_
        refine WC.run ?_
        refine WS.op rfl rfl (WS.nil [(2, _)] rfl ?_)
        refine WC.ret ?_
        refine ⟨[_], (res_tmp rfl res_nil), ?_⟩
        have hn : ¬ MayF f := by
          rintro (⟨q1, q2, q3⟩ | ⟨q1, q2, q3⟩)
          · first
            | omega
            | exact absurd q2 (by assumption)
            | exact wrC_nil e38 q3
          · first
            | omega
            | (rw [q2] at e8; exact absurd rfl e8)
            | exact absurd (show OpOnly f.c by rw [q2]; rfl) (of_decide_eq_false (by assumption))
            | exact wrO_nil e38 q3
        exact ⟨by rw [if_neg (show ¬ mayFB f = true from fun q => hn (of_decide_eq_true q))]; rfl, M6.bare.take 0⟩
       ·
        refine WS.nil [(1, _), (4, _), (38, _)] rfl ?_
        refine WC.condF rfl ?_
        refine WC.skip ?_
        refine WC.seq ?_
        refine WC.draw M6 [2] rfl ?_
        intro rb16 h17 M18
        refine WS.op rfl rfl (WS.op rfl (op_ld (M18.at 0 rfl) rfl rfl) (WS.op rfl rfl (WS.opV (.slice (some ⟨p1, 1, none⟩) 8 17) rfl rfl rfl (WS.op rfl (op_cvB (l := [f.t0, f.t1, f.t2, f.t3, f.t4, f.t5, f.t6, f.t7]) (M18.at 0 rfl) rfl rfl (Nat.le_of_ble_eq_true rfl) rfl) (WS.op rfl rfl ?_)))))
        refine WS.bslA M18 [_] 0 rfl rfl rfl rfl rfl ?_
        intro h20 M21
        refine WS.opR rfl rfl (op_cvB (l := [f.kd]) (M21.at 0 rfl) rfl rfl (Nat.le_of_ble_eq_true rfl) rfl) (WS.op rfl (op_sadd (l := [f.kd]) (m := [f.t0, f.t1, f.t2, f.t3, f.t4, f.t5, f.t6, f.t7]) rfl rfl (by first | omega | (simp only [List.length_append, List.length_cons, List.length_nil]; omega))) (WS.op rfl (op_sadd (l := ([f.kd] ++ [f.t0, f.t1, f.t2, f.t3, f.t4, f.t5, f.t6, f.t7])) (m := []) rfl rfl (by first | omega | (simp only [List.length_append, List.length_cons, List.length_nil]; omega))) (WS.op rfl rfl (WS.nil [(2, _)] rfl ?_))))
        refine WC.ret ?_
        refine ⟨[_], (res_tmp rfl res_nil), ?_⟩
        exact absurd rfl e38
      ·
       refine WC.condT rfl ?_
       refine WC.run ?_
       refine WS.op rfl rfl (WS.op rfl (op_lds [_, _, _, _, _, _, _, _, _, _, _, _, _, _, _, _] (M6.at 0 rfl) rfl (Nat.le_of_ble_eq_true rfl) rfl) ?_)
       refine WS.call rfl rfl rfl (WriteO_ran M6.here (o := f.o)) ?_
       rintro _ h22 ⟨rfl, N23⟩
       have M24 := M6.trans N23
       refine WS.op rfl rfl (WS.nil [(1, _), (4, _)] rfl ?_)
       refine WC.seq ?_
       refine WC.seq ?_
       refine WC.run ?_
       refine WS.op rfl rfl ?_
       refine WS.seql (l := (if mayOB f.o then encO f.o else [])) (m := []) rfl rfl rfl (fun e38 => ?_) (fun e38 => ?_)
       ·
        refine WS.nil [(1, _), (4, _), (38, _)] rfl ?_
        refine WC.condT rfl ?_
        refine WC.seq ?_
        refine WC.run ?_
        refine WS.op rfl rfl (WS.nil [(2, _)] rfl ?_)
        refine WC.ret ?_
        refine ⟨[_], (res_tmp rfl res_nil), ?_⟩
        have hn : ¬ MayF f := by
          rintro (⟨q1, q2, q3⟩ | ⟨q1, q2, q3⟩)
          · first
            | omega
            | exact absurd q2 (by assumption)
            | exact wrC_nil e38 q3
          · first
            | omega
            | (rw [q2] at e8; exact absurd rfl e8)
            | exact absurd (show OpOnly f.c by rw [q2]; rfl) (of_decide_eq_false (by assumption))
            | exact wrO_nil e38 q3
        exact ⟨by rw [if_neg (show ¬ mayFB f = true from fun q => hn (of_decide_eq_true q))]; rfl, M24.bare.take 0⟩
       ·
        refine WS.nil [(1, _), (4, _), (38, _)] rfl ?_
        refine WC.condF rfl ?_
        refine WC.skip ?_
        refine WC.seq ?_
        refine WC.draw M24 [2] rfl ?_
        intro rb25 h26 M27
        refine WS.op rfl rfl (WS.op rfl (op_ld (M27.at 0 rfl) rfl rfl) (WS.op rfl rfl (WS.opV (.slice (some ⟨p1, 1, none⟩) 8 17) rfl rfl rfl (WS.op rfl (op_cvB (l := [f.t0, f.t1, f.t2, f.t3, f.t4, f.t5, f.t6, f.t7]) (M27.at 0 rfl) rfl rfl (Nat.le_of_ble_eq_true rfl) rfl) (WS.op rfl rfl ?_)))))
        refine WS.bslA M27 [_] 0 rfl rfl rfl rfl rfl ?_
        intro h29 M30
        refine WS.opR rfl rfl (op_cvB (l := [f.kd]) (M30.at 0 rfl) rfl rfl (Nat.le_of_ble_eq_true rfl) rfl) (WS.op rfl (op_sadd (l := [f.kd]) (m := [f.t0, f.t1, f.t2, f.t3, f.t4, f.t5, f.t6, f.t7]) rfl rfl (by first | omega | (simp only [List.length_append, List.length_cons, List.length_nil]; omega))) (WS.op rfl (op_sadd (l := ([f.kd] ++ [f.t0, f.t1, f.t2, f.t3, f.t4, f.t5, f.t6, f.t7])) (m := (if mayOB f.o then encO f.o else [])) rfl rfl (by first | omega | (simp only [List.length_append, List.length_cons, List.length_nil]; omega))) (WS.op rfl rfl (WS.nil [(2, _)] rfl ?_))))
        refine WC.ret ?_
        refine ⟨[_], (res_tmp rfl res_nil), ?_⟩
        have hM := wrO_t e38
        have hO : OpOnly f.c := of_decide_eq_true (by assumption)
        have hZ : f.c = zeroC := by
          rw [show f.c = _ from hO, show f.c.op = 0 from u8_0 e8]; rfl
        have hF : mayFB f = true := decide_eq_true (.inr ⟨by omega, hZ, of_decide_eq_true hM⟩)
        exact ⟨by rw [if_pos hF]; unfold encF; rw [tailF_2 (by omega), if_pos hM]; rfl, M30.bare.bare.take 0⟩
     ·
      refine WS.op rfl rfl (WS.off rfl (WS.op rfl rfl (WS.op rfl rfl (WS.nil [(1, _), (4, _), (27, _)] rfl ?_))))
      refine WC.condF rfl ?_
      refine WC.skip ?_
      refine WC.seq ?_
      refine WC.seq ?_
      refine WC.run ?_
      refine WS.op rfl rfl ?_
      refine WS.seql (l := []) (m := []) rfl rfl rfl (fun e38 => ?_) (fun e38 => ?_)
      ·
       refine WS.nil [(1, _), (4, _), (38, _)] rfl ?_
       refine WC.condT rfl ?_
       refine WC.seq ?_
       refine WC.run ?_
       refine WS.op rfl rfl (WS.nil [(2, _)] rfl ?_)
       refine WC.ret ?_
       refine ⟨[_], (res_tmp rfl res_nil), ?_⟩
       have hn : ¬ MayF f := by
         rintro (⟨q1, q2, q3⟩ | ⟨q1, q2, q3⟩)
         · first
           | omega
           | exact absurd q2 (by assumption)
           | exact wrC_nil e38 q3
         · first
           | omega
           | (rw [q2] at e8; exact absurd rfl e8)
           | exact absurd (show OpOnly f.c by rw [q2]; rfl) (of_decide_eq_false (by assumption))
           | exact wrO_nil e38 q3
       exact ⟨by rw [if_neg (show ¬ mayFB f = true from fun q => hn (of_decide_eq_true q))]; rfl, M6.bare.take 0⟩
      ·
       refine WS.nil [(1, _), (4, _), (38, _)] rfl ?_
       refine WC.condF rfl ?_
       refine WC.skip ?_
       refine WC.seq ?_
       refine WC.draw M6 [2] rfl ?_
       intro rb31 h32 M33
       refine WS.op rfl rfl (WS.op rfl (op_ld (M33.at 0 rfl) rfl rfl) (WS.op rfl rfl (WS.opV (.slice (some ⟨p1, 1, none⟩) 8 17) rfl rfl rfl (WS.op rfl (op_cvB (l := [f.t0, f.t1, f.t2, f.t3, f.t4, f.t5, f.t6, f.t7]) (M33.at 0 rfl) rfl rfl (Nat.le_of_ble_eq_true rfl) rfl) (WS.op rfl rfl ?_)))))
       refine WS.bslA M33 [_] 0 rfl rfl rfl rfl rfl ?_
       intro h35 M36
       refine WS.opR rfl rfl (op_cvB (l := [f.kd]) (M36.at 0 rfl) rfl rfl (Nat.le_of_ble_eq_true rfl) rfl) (WS.op rfl (op_sadd (l := [f.kd]) (m := [f.t0, f.t1, f.t2, f.t3, f.t4, f.t5, f.t6, f.t7]) rfl rfl (by first | omega | (simp only [List.length_append, List.length_cons, List.length_nil]; omega))) (WS.op rfl (op_sadd (l := ([f.kd] ++ [f.t0, f.t1, f.t2, f.t3, f.t4, f.t5, f.t6, f.t7])) (m := []) rfl rfl (by first | omega | (simp only [List.length_append, List.length_cons, List.length_nil]; omega))) (WS.op rfl rfl (WS.nil [(2, _)] rfl ?_))))
       refine WC.ret ?_
       refine ⟨[_], (res_tmp rfl res_nil), ?_⟩
       exact absurd rfl e38
   ·
    refine WS.op rfl rfl (WS.off rfl (WS.off rfl (WS.off rfl (WS.off rfl (WS.op rfl rfl (WS.op rfl rfl (WS.nil [(1, _), (3, _), (4, _), (14, _)] rfl ?_)))))))
    refine WC.condF rfl ?_
    refine WC.seq ?_
    refine WC.run ?_
    refine WS.op rfl rfl (WS.op rfl (op_ld (M6.at 0 rfl) rfl rfl) ?_)
    refine WS.eqlN (a := (f.kd).toNat) (b := 2) rfl rfl rfl (fun e30 => ?_) (fun e30 => ?_)
    ·
     refine WS.op rfl rfl (WS.op rfl rfl (WS.op rfl rfl (WS.op rfl rfl (WS.nil [(1, _), (4, _), (27, _)] rfl ?_))))
     cases hb1 : (decide (OpOnly f.c))
     ·
      refine WC.condF rfl ?_
      refine WC.skip ?_
      refine WC.seq ?_
      refine WC.seq ?_
      refine WC.run ?_
      refine WS.op rfl rfl ?_
      refine WS.seql (l := []) (m := []) rfl rfl rfl (fun e38 => ?_) (fun e38 => ?_)
      ·
       refine WS.nil [(1, _), (4, _), (38, _)] rfl ?_
       refine WC.condT rfl ?_
       refine WC.seq ?_
       refine WC.run ?_
       refine WS.op rfl rfl (WS.nil [(2, _)] rfl ?_)
       refine WC.ret ?_
       refine ⟨[_], (res_tmp rfl res_nil), ?_⟩
       have hn : ¬ MayF f := by
         rintro (⟨q1, q2, q3⟩ | ⟨q1, q2, q3⟩)
         · first
           | omega
           | exact absurd q2 (by assumption)
           | exact wrC_nil e38 q3
         · first
           | omega
           | (rw [q2] at e8; exact absurd rfl e8)
           | exact absurd (show OpOnly f.c by rw [q2]; rfl) (of_decide_eq_false (by assumption))
           | exact wrO_nil e38 q3
       exact ⟨by rw [if_neg (show ¬ mayFB f = true from fun q => hn (of_decide_eq_true q))]; rfl, M6.bare.take 0⟩
      ·
       refine WS.nil [(1, _), (4, _), (38, _)] rfl ?_
       refine WC.condF rfl ?_
       refine WC.skip ?_
       refine WC.seq ?_
       refine WC.draw M6 [2] rfl ?_
       intro rb37 h38 M39
       refine WS.op rfl rfl (WS.op rfl (op_ld (M39.at 0 rfl) rfl rfl) (WS.op rfl rfl (WS.opV (.slice (some ⟨p1, 1, none⟩) 8 17) rfl rfl rfl (WS.op rfl (op_cvB (l := [f.t0, f.t1, f.t2, f.t3, f.t4, f.t5, f.t6, f.t7]) (M39.at 0 rfl) rfl rfl (Nat.le_of_ble_eq_true rfl) rfl) (WS.op rfl rfl ?_)))))
       refine WS.bslA M39 [_] 0 rfl rfl rfl rfl rfl ?_
       intro h41 M42
       refine WS.opR rfl rfl (op_cvB (l := [f.kd]) (M42.at 0 rfl) rfl rfl (Nat.le_of_ble_eq_true rfl) rfl) (WS.op rfl (op_sadd (l := [f.kd]) (m := [f.t0, f.t1, f.t2, f.t3, f.t4, f.t5, f.t6, f.t7]) rfl rfl (by first | omega | (simp only [List.length_append, List.length_cons, List.length_nil]; omega))) (WS.op rfl (op_sadd (l := ([f.kd] ++ [f.t0, f.t1, f.t2, f.t3, f.t4, f.t5, f.t6, f.t7])) (m := []) rfl rfl (by first | omega | (simp only [List.length_append, List.length_cons, List.length_nil]; omega))) (WS.op rfl rfl (WS.nil [(2, _)] rfl ?_))))
       refine WC.ret ?_
       refine ⟨[_], (res_tmp rfl res_nil), ?_⟩
       exact absurd rfl e38
     ·
      refine WC.condT rfl ?_
      refine WC.run ?_
      refine WS.op rfl rfl (WS.op rfl (op_lds [_, _, _, _, _, _, _, _, _, _, _, _, _, _, _, _] (M6.at 0 rfl) rfl (Nat.le_of_ble_eq_true rfl) rfl) ?_)
      refine WS.call rfl rfl rfl (WriteO_ran M6.here (o := f.o)) ?_
      rintro _ h43 ⟨rfl, N44⟩
      have M45 := M6.trans N44
      refine WS.op rfl rfl (WS.nil [(1, _), (4, _)] rfl ?_)
      refine WC.seq ?_
      refine WC.seq ?_
      refine WC.run ?_
      refine WS.op rfl rfl ?_
      refine WS.seql (l := (if mayOB f.o then encO f.o else [])) (m := []) rfl rfl rfl (fun e38 => ?_) (fun e38 => ?_)
      ·
       refine WS.nil [(1, _), (4, _), (38, _)] rfl ?_
       refine WC.condT rfl ?_
       refine WC.seq ?_
       refine WC.run ?_
       refine WS.op rfl rfl (WS.nil [(2, _)] rfl ?_)
       refine WC.ret ?_
       refine ⟨[_], (res_tmp rfl res_nil), ?_⟩
       have hn : ¬ MayF f := by
         rintro (⟨q1, q2, q3⟩ | ⟨q1, q2, q3⟩)
         · first
           | omega
           | exact absurd q2 (by assumption)
           | exact wrC_nil e38 q3
         · first
           | omega
           | (rw [q2] at e8; exact absurd rfl e8)
           | exact absurd (show OpOnly f.c by rw [q2]; rfl) (of_decide_eq_false (by assumption))
           | exact wrO_nil e38 q3
       exact ⟨by rw [if_neg (show ¬ mayFB f = true from fun q => hn (of_decide_eq_true q))]; rfl, M45.bare.take 0⟩
      ·
       refine WS.nil [(1, _), (4, _), (38, _)] rfl ?_
       refine WC.condF rfl ?_
       refine WC.skip ?_
       refine WC.seq ?_
       refine WC.draw M45 [2] rfl ?_
       intro rb46 h47 M48
       refine WS.op rfl rfl (WS.op rfl (op_ld (M48.at 0 rfl) rfl rfl) (WS.op rfl rfl (WS.opV (.slice (some ⟨p1, 1, none⟩) 8 17) rfl rfl rfl (WS.op rfl (op_cvB (l := [f.t0, f.t1, f.t2, f.t3, f.t4, f.t5, f.t6, f.t7]) (M48.at 0 rfl) rfl rfl (Nat.le_of_ble_eq_true rfl) rfl) (WS.op rfl rfl ?_)))))
       refine WS.bslA M48 [_] 0 rfl rfl rfl rfl rfl ?_
       intro h50 M51
       refine WS.opR rfl rfl (op_cvB (l := [f.kd]) (M51.at 0 rfl) rfl rfl (Nat.le_of_ble_eq_true rfl) rfl) (WS.op rfl (op_sadd (l := [f.kd]) (m := [f.t0, f.t1, f.t2, f.t3, f.t4, f.t5, f.t6, f.t7]) rfl rfl (by first | omega | (simp only [List.length_append, List.length_cons, List.length_nil]; omega))) (WS.op rfl (op_sadd (l := ([f.kd] ++ [f.t0, f.t1, f.t2, f.t3, f.t4, f.t5, f.t6, f.t7])) (m := (if mayOB f.o then encO f.o else [])) rfl rfl (by first | omega | (simp only [List.length_append, List.length_cons, List.length_nil]; omega))) (WS.op rfl rfl (WS.nil [(2, _)] rfl ?_))))
       refine WC.ret ?_
       refine ⟨[_], (res_tmp rfl res_nil), ?_⟩
       have hM := wrO_t e38
       have hO : OpOnly f.c := of_decide_eq_true (by assumption)
       have hZ : f.c = zeroC := by
         rw [show f.c = _ from hO, show f.c.op = 0 from u8_0 e8]; rfl
       have hF : mayFB f = true := decide_eq_true (.inr ⟨by omega, hZ, of_decide_eq_true hM⟩)
       exact ⟨by rw [if_pos hF]; unfold encF; rw [tailF_2 (by omega), if_pos hM]; rfl, M51.bare.bare.take 0⟩
    ·
     refine WS.op rfl rfl (WS.off rfl (WS.op rfl rfl (WS.op rfl rfl (WS.nil [(1, _), (4, _), (27, _)] rfl ?_))))
     refine WC.condF rfl ?_
     refine WC.skip ?_
     refine WC.seq ?_
     refine WC.seq ?_
     refine WC.run ?_
     refine WS.op rfl rfl ?_
     refine WS.seql (l := []) (m := []) rfl rfl rfl (fun e38 => ?_) (fun e38 => ?_)
     ·
      refine WS.nil [(1, _), (4, _), (38, _)] rfl ?_
      refine WC.condT rfl ?_
      refine WC.seq ?_
      refine WC.run ?_
      refine WS.op rfl rfl (WS.nil [(2, _)] rfl ?_)
      refine WC.ret ?_
      refine ⟨[_], (res_tmp rfl res_nil), ?_⟩
      have hn : ¬ MayF f := by
        rintro (⟨q1, q2, q3⟩ | ⟨q1, q2, q3⟩)
        · first
          | omega
          | exact absurd q2 (by assumption)
          | exact wrC_nil e38 q3
        · first
          | omega
          | (rw [q2] at e8; exact absurd rfl e8)
          | exact absurd (show OpOnly f.c by rw [q2]; rfl) (of_decide_eq_false (by assumption))
          | exact wrO_nil e38 q3
      exact ⟨by rw [if_neg (show ¬ mayFB f = true from fun q => hn (of_decide_eq_true q))]; rfl, M6.bare.take 0⟩
     ·
      refine WS.nil [(1, _), (4, _), (38, _)] rfl ?_
      refine WC.condF rfl ?_
      refine WC.skip ?_
      refine WC.seq ?_
      refine WC.draw M6 [2] rfl ?_
      intro rb52 h53 M54
      refine WS.op rfl rfl (WS.op rfl (op_ld (M54.at 0 rfl) rfl rfl) (WS.op rfl rfl (WS.opV (.slice (some ⟨p1, 1, none⟩) 8 17) rfl rfl rfl (WS.op rfl (op_cvB (l := [f.t0, f.t1, f.t2, f.t3, f.t4, f.t5, f.t6, f.t7]) (M54.at 0 rfl) rfl rfl (Nat.le_of_ble_eq_true rfl) rfl) (WS.op rfl rfl ?_)))))
      refine WS.bslA M54 [_] 0 rfl rfl rfl rfl rfl ?_
      intro h56 M57
      refine WS.opR rfl rfl (op_cvB (l := [f.kd]) (M57.at 0 rfl) rfl rfl (Nat.le_of_ble_eq_true rfl) rfl) (WS.op rfl (op_sadd (l := [f.kd]) (m := [f.t0, f.t1, f.t2, f.t3, f.t4, f.t5, f.t6, f.t7]) rfl rfl (by first | omega | (simp only [List.length_append, List.length_cons, List.length_nil]; omega))) (WS.op rfl (op_sadd (l := ([f.kd] ++ [f.t0, f.t1, f.t2, f.t3, f.t4, f.t5, f.t6, f.t7])) (m := []) rfl rfl (by first | omega | (simp only [List.length_append, List.length_cons, List.length_nil]; omega))) (WS.op rfl rfl (WS.nil [(2, _)] rfl ?_))))
      refine WC.ret ?_
      refine ⟨[_], (res_tmp rfl res_nil), ?_⟩
      exact absurd rfl e38
  ·
   refine WS.op rfl rfl (WS.off rfl (WS.off rfl (WS.offC rfl (WS.op rfl rfl (WS.op rfl rfl (WS.nil [(1, _), (3, _)] rfl ?_))))))
   refine WC.seq ?_
   refine WC.run ?_
   refine WS.op rfl rfl (WS.nil [(1, _), (3, _), (4, _)] rfl ?_)
   refine WC.seq ?_
   refine WC.block ?_
   refine WC.seq ?_
   refine WC.run ?_
   refine WS.op rfl rfl (WS.op rfl (op_ld (M3.at 0 rfl) rfl rfl) ?_)
   refine WS.eqlN (a := (f.kd).toNat) (b := 1) rfl rfl rfl (fun e17 => ?_) (fun e17 => ?_)
   ·
    refine WS.op rfl rfl (WS.op rfl rfl (WS.op rfl (op_lds [_, _, _, _, _, _, _, _, _, _, _, _, _, _, _, _] (M3.at 0 rfl) rfl (Nat.le_of_ble_eq_true rfl) rfl) (WS.opV (.agg #[(.int .u8 (0 : Int)), (.int .u8 (0 : Int)), (.int .u8 (0 : Int)), (.int .u8 (0 : Int)), (.int .u8 (0 : Int)), (.int .u8 (0 : Int)), (.int .u8 (0 : Int)), (.int .u8 (0 : Int)), (.int .u8 (0 : Int)), (.int .u8 (0 : Int)), (.int .u8 (0 : Int)), (.int .i64 (0 : Int)), (.int .i64 (0 : Int)), (.int .i64 (0 : Int)), (.int .i64 (0 : Int)), (.int .u8 (0 : Int))]) rfl rfl rfl ?_)))
    refine WS.eqqD (p := f.o = (⟨0, 0, 0, 0, 0, 0, 0, 0, 0, 0, 0, 0, 0, 0, 0, 0⟩ : Oper)) rfl rfl rfl (Oper_eqV f.o (⟨0, 0, 0, 0, 0, 0, 0, 0, 0, 0, 0, 0, 0, 0, 0, 0⟩ : Oper)) (fun e22 => ?_) (fun e22 => ?_)
    ·
     refine WS.op rfl rfl (WS.op rfl rfl (WS.nil [(1, _), (3, _), (4, _), (14, _)] rfl ?_))
     refine WC.condT rfl ?_
     refine WC.run ?_
     refine WS.op rfl rfl (WS.op rfl (op_lds [_, _, _, _, _, _, _, _, _, _, _, _] (M3.at 0 rfl) rfl (Nat.le_of_ble_eq_true rfl) rfl) ?_)
     refine WS.call rfl rfl rfl (Write_ran M3.here (c := f.c) (A.mono M3.sub) (by assumption)) ?_
     rintro _ h58 ⟨rfl, N59⟩
     have M60 := M3.trans N59
     refine WS.op rfl rfl (WS.nil [(1, _), (4, _)] rfl ?_)
     refine WC.seq ?_
     refine WC.seq ?_
     refine WC.run ?_
     refine WS.op rfl rfl ?_
     refine WS.seql (l := (if mayB f.c then encC f.c else [])) (m := []) rfl rfl rfl (fun e38 => ?_) (fun e38 => ?_)
     ·
      refine WS.nil [(1, _), (4, _), (38, _)] rfl ?_
      refine WC.condT rfl ?_
      refine WC.seq ?_
      refine WC.run ?_
      refine WS.op rfl rfl (WS.nil [(2, _)] rfl ?_)
      refine WC.ret ?_
      refine ⟨[_], (res_tmp rfl res_nil), ?_⟩
      have hn : ¬ MayF f := by
        rintro (⟨q1, q2, q3⟩ | ⟨q1, q2, q3⟩)
        · first
          | omega
          | exact absurd q2 (by assumption)
          | exact wrC_nil e38 q3
        · first
          | omega
          | (rw [q2] at e8; exact absurd rfl e8)
          | exact absurd (show OpOnly f.c by rw [q2]; rfl) (of_decide_eq_false (by assumption))
          | exact wrO_nil e38 q3
      exact ⟨by rw [if_neg (show ¬ mayFB f = true from fun q => hn (of_decide_eq_true q))]; rfl, M60.bare.take 0⟩
     ·
      refine WS.nil [(1, _), (4, _), (38, _)] rfl ?_
      refine WC.condF rfl ?_
      refine WC.skip ?_
      refine WC.seq ?_
      refine WC.draw M60 [2] rfl ?_
      intro rb61 h62 M63
      refine WS.op rfl rfl (WS.op rfl (op_ld (M63.at 0 rfl) rfl rfl) (WS.op rfl rfl (WS.opV (.slice (some ⟨p1, 1, none⟩) 8 17) rfl rfl rfl (WS.op rfl (op_cvB (l := [f.t0, f.t1, f.t2, f.t3, f.t4, f.t5, f.t6, f.t7]) (M63.at 0 rfl) rfl rfl (Nat.le_of_ble_eq_true rfl) rfl) (WS.op rfl rfl ?_)))))
      refine WS.bslA M63 [_] 0 rfl rfl rfl rfl rfl ?_
      intro h65 M66
      refine WS.opR rfl rfl (op_cvB (l := [f.kd]) (M66.at 0 rfl) rfl rfl (Nat.le_of_ble_eq_true rfl) rfl) (WS.op rfl (op_sadd (l := [f.kd]) (m := [f.t0, f.t1, f.t2, f.t3, f.t4, f.t5, f.t6, f.t7]) rfl rfl (by first | omega | (simp only [List.length_append, List.length_cons, List.length_nil]; omega))) (WS.op rfl (op_sadd (l := ([f.kd] ++ [f.t0, f.t1, f.t2, f.t3, f.t4, f.t5, f.t6, f.t7])) (m := (if mayB f.c then encC f.c else [])) rfl rfl (by first | omega | (simp only [List.length_append, List.length_cons, List.length_nil]; omega))) (WS.op rfl rfl (WS.nil [(2, _)] rfl ?_))))
      refine WC.ret ?_
      refine ⟨[_], (res_tmp rfl res_nil), ?_⟩
      have hM := wrC_t e38
      have hF : mayFB f = true := decide_eq_true (.inl ⟨by omega, by assumption, of_decide_eq_true hM⟩)
      exact ⟨by rw [if_pos hF]; unfold encF; rw [tailF_1 (by omega), if_pos hM]; rfl, M66.bare.bare.take 0⟩
    ·
     refine WS.op rfl rfl (WS.op rfl rfl (WS.nil [(1, _), (3, _), (4, _), (14, _)] rfl ?_))
     refine WC.condF rfl ?_
     refine WC.seq ?_
     refine WC.run ?_
     refine WS.op rfl rfl (WS.op rfl (op_ld (M3.at 0 rfl) rfl rfl) ?_)
     refine WS.eqlN (a := (f.kd).toNat) (b := 2) rfl rfl rfl (fun e30 => ?_) (fun e30 => ?_)
     ·
      refine WS.op rfl rfl (WS.op rfl rfl (WS.op rfl rfl (WS.op rfl rfl (WS.nil [(1, _), (4, _), (27, _)] rfl ?_))))
      refine WC.condF rfl ?_
      refine WC.skip ?_
      refine WC.seq ?_
      refine WC.seq ?_
      refine WC.run ?_
      refine WS.op rfl rfl ?_
      refine WS.seql (l := []) (m := []) rfl rfl rfl (fun e38 => ?_) (fun e38 => ?_)
      ·
       refine WS.nil [(1, _), (4, _), (38, _)] rfl ?_
       refine WC.condT rfl ?_
       refine WC.seq ?_
       refine WC.run ?_
       refine WS.op rfl rfl (WS.nil [(2, _)] rfl ?_)
       refine WC.ret ?_
       refine ⟨[_], (res_tmp rfl res_nil), ?_⟩
       have hn : ¬ MayF f := by
         rintro (⟨q1, q2, q3⟩ | ⟨q1, q2, q3⟩)
         · first
           | omega
           | exact absurd q2 (by assumption)
           | exact wrC_nil e38 q3
         · first
           | omega
           | (rw [q2] at e8; exact absurd rfl e8)
           | exact absurd (show OpOnly f.c by rw [q2]; rfl) (of_decide_eq_false (by assumption))
           | exact wrO_nil e38 q3
       exact ⟨by rw [if_neg (show ¬ mayFB f = true from fun q => hn (of_decide_eq_true q))]; rfl, M3.bare.take 0⟩
      ·
       refine WS.nil [(1, _), (4, _), (38, _)] rfl ?_
       refine WC.condF rfl ?_
       refine WC.skip ?_
       refine WC.seq ?_
       refine WC.draw M3 [2] rfl ?_
       intro rb67 h68 M69
       refine WS.op rfl rfl (WS.op rfl (op_ld (M69.at 0 rfl) rfl rfl) (WS.op rfl rfl (WS.opV (.slice (some ⟨p1, 1, none⟩) 8 17) rfl rfl rfl (WS.op rfl (op_cvB (l := [f.t0, f.t1, f.t2, f.t3, f.t4, f.t5, f.t6, f.t7]) (M69.at 0 rfl) rfl rfl (Nat.le_of_ble_eq_true rfl) rfl) (WS.op rfl rfl ?_)))))
       refine WS.bslA M69 [_] 0 rfl rfl rfl rfl rfl ?_
       intro h71 M72
       refine WS.opR rfl rfl (op_cvB (l := [f.kd]) (M72.at 0 rfl) rfl rfl (Nat.le_of_ble_eq_true rfl) rfl) (WS.op rfl (op_sadd (l := [f.kd]) (m := [f.t0, f.t1, f.t2, f.t3, f.t4, f.t5, f.t6, f.t7]) rfl rfl (by first | omega | (simp only [List.length_append, List.length_cons, List.length_nil]; omega))) (WS.op rfl (op_sadd (l := ([f.kd] ++ [f.t0, f.t1, f.t2, f.t3, f.t4, f.t5, f.t6, f.t7])) (m := []) rfl rfl (by first | omega | (simp only [List.length_append, List.length_cons, List.length_nil]; omega))) (WS.op rfl rfl (WS.nil [(2, _)] rfl ?_))))
       refine WC.ret ?_
       refine ⟨[_], (res_tmp rfl res_nil), ?_⟩
       exact absurd rfl e38
     ·
      refine WS.op rfl rfl (WS.off rfl (WS.op rfl rfl (WS.op rfl rfl (WS.nil [(1, _), (4, _), (27, _)] rfl ?_))))
      refine WC.condF rfl ?_
      refine WC.skip ?_
      refine WC.seq ?_
      refine WC.seq ?_
      refine WC.run ?_
      refine WS.op rfl rfl ?_
      refine WS.seql (l := []) (m := []) rfl rfl rfl (fun e38 => ?_) (fun e38 => ?_)
      ·
       refine WS.nil [(1, _), (4, _), (38, _)] rfl ?_
       refine WC.condT rfl ?_
       refine WC.seq ?_
       refine WC.run ?_
       refine WS.op rfl rfl (WS.nil [(2, _)] rfl ?_)
       refine WC.ret ?_
       refine ⟨[_], (res_tmp rfl res_nil), ?_⟩
       have hn : ¬ MayF f := by
         rintro (⟨q1, q2, q3⟩ | ⟨q1, q2, q3⟩)
         · first
           | omega
           | exact absurd q2 (by assumption)
           | exact wrC_nil e38 q3
         · first
           | omega
           | (rw [q2] at e8; exact absurd rfl e8)
           | exact absurd (show OpOnly f.c by rw [q2]; rfl) (of_decide_eq_false (by assumption))
           | exact wrO_nil e38 q3
       exact ⟨by rw [if_neg (show ¬ mayFB f = true from fun q => hn (of_decide_eq_true q))]; rfl, M3.bare.take 0⟩
      ·
       refine WS.nil [(1, _), (4, _), (38, _)] rfl ?_
       refine WC.condF rfl ?_
       refine WC.skip ?_
       refine WC.seq ?_
       refine WC.draw M3 [2] rfl ?_
       intro rb73 h74 M75
       refine WS.op rfl rfl (WS.op rfl (op_ld (M75.at 0 rfl) rfl rfl) (WS.op rfl rfl (WS.opV (.slice (some ⟨p1, 1, none⟩) 8 17) rfl rfl rfl (WS.op rfl (op_cvB (l := [f.t0, f.t1, f.t2, f.t3, f.t4, f.t5, f.t6, f.t7]) (M75.at 0 rfl) rfl rfl (Nat.le_of_ble_eq_true rfl) rfl) (WS.op rfl rfl ?_)))))
       refine WS.bslA M75 [_] 0 rfl rfl rfl rfl rfl ?_
       intro h77 M78
       refine WS.opR rfl rfl (op_cvB (l := [f.kd]) (M78.at 0 rfl) rfl rfl (Nat.le_of_ble_eq_true rfl) rfl) (WS.op rfl (op_sadd (l := [f.kd]) (m := [f.t0, f.t1, f.t2, f.t3, f.t4, f.t5, f.t6, f.t7]) rfl rfl (by first | omega | (simp only [List.length_append, List.length_cons, List.length_nil]; omega))) (WS.op rfl (op_sadd (l := ([f.kd] ++ [f.t0, f.t1, f.t2, f.t3, f.t4, f.t5, f.t6, f.t7])) (m := []) rfl rfl (by first | omega | (simp only [List.length_append, List.length_cons, List.length_nil]; omega))) (WS.op rfl rfl (WS.nil [(2, _)] rfl ?_))))
       refine WC.ret ?_
       refine ⟨[_], (res_tmp rfl res_nil), ?_⟩
       exact absurd rfl e38
   ·
    refine WS.op rfl rfl (WS.off rfl (WS.off rfl (WS.off rfl (WS.off rfl (WS.op rfl rfl (WS.op rfl rfl (WS.nil [(1, _), (3, _), (4, _), (14, _)] rfl ?_)))))))
    refine WC.condF rfl ?_
    refine WC.seq ?_
    refine WC.run ?_
    refine WS.op rfl rfl (WS.op rfl (op_ld (M3.at 0 rfl) rfl rfl) ?_)
    refine WS.eqlN (a := (f.kd).toNat) (b := 2) rfl rfl rfl (fun e30 => ?_) (fun e30 => ?_)
    ·
     refine WS.op rfl rfl (WS.op rfl rfl (WS.op rfl rfl (WS.op rfl rfl (WS.nil [(1, _), (4, _), (27, _)] rfl ?_))))
     refine WC.condF rfl ?_
     refine WC.skip ?_
     refine WC.seq ?_
     refine WC.seq ?_
     refine WC.run ?_
     refine WS.op rfl rfl ?_
     refine WS.seql (l := []) (m := []) rfl rfl rfl (fun e38 => ?_) (fun e38 => ?_)
     ·
      refine WS.nil [(1, _), (4, _), (38, _)] rfl ?_
      refine WC.condT rfl ?_
      refine WC.seq ?_
      refine WC.run ?_
      refine WS.op rfl rfl (WS.nil [(2, _)] rfl ?_)
      refine WC.ret ?_
      refine ⟨[_], (res_tmp rfl res_nil), ?_⟩
      have hn : ¬ MayF f := by
        rintro (⟨q1, q2, q3⟩ | ⟨q1, q2, q3⟩)
        · first
          | omega
          | exact absurd q2 (by assumption)
          | exact wrC_nil e38 q3
        · first
          | omega
          | (rw [q2] at e8; exact absurd rfl e8)
          | exact absurd (show OpOnly f.c by rw [q2]; rfl) (of_decide_eq_false (by assumption))
          | exact wrO_nil e38 q3
      exact ⟨by rw [if_neg (show ¬ mayFB f = true from fun q => hn (of_decide_eq_true q))]; rfl, M3.bare.take 0⟩
     ·
      refine WS.nil [(1, _), (4, _), (38, _)] rfl ?_
      refine WC.condF rfl ?_
      refine WC.skip ?_
      refine WC.seq ?_
      refine WC.draw M3 [2] rfl ?_
      intro rb79 h80 M81
      refine WS.op rfl rfl (WS.op rfl (op_ld (M81.at 0 rfl) rfl rfl) (WS.op rfl rfl (WS.opV (.slice (some ⟨p1, 1, none⟩) 8 17) rfl rfl rfl (WS.op rfl (op_cvB (l := [f.t0, f.t1, f.t2, f.t3, f.t4, f.t5, f.t6, f.t7]) (M81.at 0 rfl) rfl rfl (Nat.le_of_ble_eq_true rfl) rfl) (WS.op rfl rfl ?_)))))
      refine WS.bslA M81 [_] 0 rfl rfl rfl rfl rfl ?_
      intro h83 M84
      refine WS.opR rfl rfl (op_cvB (l := [f.kd]) (M84.at 0 rfl) rfl rfl (Nat.le_of_ble_eq_true rfl) rfl) (WS.op rfl (op_sadd (l := [f.kd]) (m := [f.t0, f.t1, f.t2, f.t3, f.t4, f.t5, f.t6, f.t7]) rfl rfl (by first | omega | (simp only [List.length_append, List.length_cons, List.length_nil]; omega))) (WS.op rfl (op_sadd (l := ([f.kd] ++ [f.t0, f.t1, f.t2, f.t3, f.t4, f.t5, f.t6, f.t7])) (m := []) rfl rfl (by first | omega | (simp only [List.length_append, List.length_cons, List.length_nil]; omega))) (WS.op rfl rfl (WS.nil [(2, _)] rfl ?_))))
      refine WC.ret ?_
      refine ⟨[_], (res_tmp rfl res_nil), ?_⟩
      exact absurd rfl e38
    ·
     refine WS.op rfl rfl (WS.off rfl (WS.op rfl rfl (WS.op rfl rfl (WS.nil [(1, _), (4, _), (27, _)] rfl ?_))))
     refine WC.condF rfl ?_
     refine WC.skip ?_
     refine WC.seq ?_
     refine WC.seq ?_
     refine WC.run ?_
     refine WS.op rfl rfl ?_
     refine WS.seql (l := []) (m := []) rfl rfl rfl (fun e38 => ?_) (fun e38 => ?_)
     ·
      refine WS.nil [(1, _), (4, _), (38, _)] rfl ?_
      refine WC.condT rfl ?_
      refine WC.seq ?_
      refine WC.run ?_
      refine WS.op rfl rfl (WS.nil [(2, _)] rfl ?_)
      refine WC.ret ?_
      refine ⟨[_], (res_tmp rfl res_nil), ?_⟩
      have hn : ¬ MayF f := by
        rintro (⟨q1, q2, q3⟩ | ⟨q1, q2, q3⟩)
        · first
          | omega
          | exact absurd q2 (by assumption)
          | exact wrC_nil e38 q3
        · first
          | omega
          | (rw [q2] at e8; exact absurd rfl e8)
          | exact absurd (show OpOnly f.c by rw [q2]; rfl) (of_decide_eq_false (by assumption))
          | exact wrO_nil e38 q3
      exact ⟨by rw [if_neg (show ¬ mayFB f = true from fun q => hn (of_decide_eq_true q))]; rfl, M3.bare.take 0⟩
     ·
      refine WS.nil [(1, _), (4, _), (38, _)] rfl ?_
      refine WC.condF rfl ?_
      refine WC.skip ?_
      refine WC.seq ?_
      refine WC.draw M3 [2] rfl ?_
      intro rb85 h86 M87
      refine WS.op rfl rfl (WS.op rfl (op_ld (M87.at 0 rfl) rfl rfl) (WS.op rfl rfl (WS.opV (.slice (some ⟨p1, 1, none⟩) 8 17) rfl rfl rfl (WS.op rfl (op_cvB (l := [f.t0, f.t1, f.t2, f.t3, f.t4, f.t5, f.t6, f.t7]) (M87.at 0 rfl) rfl rfl (Nat.le_of_ble_eq_true rfl) rfl) (WS.op rfl rfl ?_)))))
      refine WS.bslA M87 [_] 0 rfl rfl rfl rfl rfl ?_
      intro h89 M90
      refine WS.opR rfl rfl (op_cvB (l := [f.kd]) (M90.at 0 rfl) rfl rfl (Nat.le_of_ble_eq_true rfl) rfl) (WS.op rfl (op_sadd (l := [f.kd]) (m := [f.t0, f.t1, f.t2, f.t3, f.t4, f.t5, f.t6, f.t7]) rfl rfl (by first | omega | (simp only [List.length_append, List.length_cons, List.length_nil]; omega))) (WS.op rfl (op_sadd (l := ([f.kd] ++ [f.t0, f.t1, f.t2, f.t3, f.t4, f.t5, f.t6, f.t7])) (m := []) rfl rfl (by first | omega | (simp only [List.length_append, List.length_cons, List.length_nil]; omega))) (WS.op rfl rfl (WS.nil [(2, _)] rfl ?_))))
      refine WC.ret ?_
      refine ⟨[_], (res_tmp rfl res_nil), ?_⟩
      exact absurd rfl e38
end Go.Proofs.Yteikngjiaboeaaa.Wt
namespace Go.Proofs.Yteikngjiaboeaaa.Wt
open Go Go.Proofs.Yteikngjiaboeaaa.Am Go.Proofs.Yteikngjiaboeaaa.IrAll
set_option linter.unusedVariables false
set_option linter.unusedSimpArgs false
theorem hd9 {s : List UInt8} {a c0 c1 c2 c3 c4 c5 c6 c7 : UInt8} (h0 : s[0]? = some a) (h8 : (s.drop 1).take 8 = [c0, c1, c2, c3, c4, c5, c6, c7]) : s = [a, c0, c1, c2, c3, c4, c5, c6, c7] ++ s.drop 9 := by
  have e := drop_cons h0
  rw [List.drop_zero] at e
  have e2 := List.take_append_drop 8 (s.drop 1)
  rw [h8, List.drop_drop] at e2
  conv => lhs; rw [e, ← e2]
  rfl
variable {h base : H} {L : List Seg} {R : List Nat}
theorem encF_drop (f : Frm) : (encF f).drop 9 = tailF f := rfl
theorem rdF_no {s : List UInt8} (h : ∀ f0, GoodF f0 → encF f0 ≠ s) : Rd GoodF encF zeroF s zeroF false := ⟨fun q => (nomatch q), fun _ => ⟨rfl, h⟩⟩
theorem rdF_yes {s : List UInt8} {f : Frm} (g : GoodF f) (h : encF f = s) : Rd GoodF encF zeroF s f true := ⟨fun _ => ⟨g, h⟩, fun q => (nomatch q)⟩
theorem noF_short {s : List UInt8} (h : s.length < 9) : ∀ f0, GoodF f0 → encF f0 ≠ s := fun f0 _ e => by
  have := congrArg List.length e
  simp [encF] at this; omega
theorem noF_1 {s : List UInt8} {a : UInt8} {c : Cmd} (h0 : s[0]? = some a) (ha : a.toNat = 1) (hC : RdC (s.drop 9) c false) : ∀ f0, GoodF f0 → encF f0 ≠ s := fun f0 g e => by
  have hk : f0.kd = a := by rw [← e] at h0; simpa [encF] using h0
  rcases g.1 with ⟨q1, q2, q3⟩ | ⟨q1, q2, q3⟩
  · exact (hC.2 rfl).2 f0.c q3 g.2 (by rw [← e, encF_drop, tailF_1 q1])
  · rw [hk] at q1; omega
theorem noF_2 {s : List UInt8} {a : UInt8} {o : Oper} (h0 : s[0]? = some a) (ha : a.toNat = 2) (hC : RdO (s.drop 9) o false) : ∀ f0, GoodF f0 → encF f0 ≠ s := fun f0 g e => by
  have hk : f0.kd = a := by rw [← e] at h0; simpa [encF] using h0
  rcases g.1 with ⟨q1, q2, q3⟩ | ⟨q1, q2, q3⟩
  · rw [hk] at q1; omega
  · exact (hC.2 rfl).2 f0.o q3 (by rw [← e, encF_drop, tailF_2 q1])
theorem noF_0 {s : List UInt8} {a : UInt8} (h0 : s[0]? = some a) (ha : a.toNat ≠ 1) (hb : a.toNat ≠ 2) : ∀ f0, GoodF f0 → encF f0 ≠ s := fun f0 g e => by
  have hk : f0.kd = a := by rw [← e] at h0; simpa [encF] using h0
  rcases g.1 with ⟨q1, q2, q3⟩ | ⟨q1, q2, q3⟩
  · rw [hk] at q1; omega
  · rw [hk] at q1; omega
set_option maxRecDepth 8000 in
theorem ReadF_ran (W : Mem h h [] []) {s : List UInt8} (hl : s.length ≤ 300000) : Cll tab0 13 [.string (bs s)] h (fun v h2 => ∃ f V S ok, KPart.Own V (Cmd.ps f.c) S ∧ v = .tuple #[Frm.val f V, .bool ok] ∧ Fit f.c ∧ Rd GoodF encF zeroF s f ok ∧ Mem h h2 [S] []) := by
  refine Cll.code rfl rfl ?_
  refine WC.env [(0, _)] rfl ?_
  refine WC.seq ?_
  refine WC.run ?_
  refine WS.new W rfl ?_
  intro p1 h2 M3
  refine WS.op rfl rfl (WS.nil [(0, _), (2, _)] rfl ?_)
  refine WC.seq ?_
  refine WC.seq ?_
  refine WC.run ?_
  refine WS.op rfl rfl (WS.op rfl (op_lenS (l := s) rfl) ?_)
  refine WS.lssN (a := (s).length) (b := 9) rfl rfl rfl (fun e8 => ?_) (fun e8 => ?_)
  ·
   refine WS.nil [(0, _), (2, _), (8, _)] rfl ?_
   refine WC.condT rfl ?_
   refine WC.seq ?_
   refine WC.run ?_
   refine WS.opV (.agg #[(.int .u8 (0 : Int)), (.int .u8 (0 : Int)), (.int .u8 (0 : Int)), (.int .u8 (0 : Int)), (.int .u8 (0 : Int)), (.int .u8 (0 : Int)), (.int .u8 (0 : Int)), (.int .u8 (0 : Int)), (.int .u8 (0 : Int)), (.int .u8 (0 : Int)), (.int .u64 (0 : Int)), (.int .u64 (0 : Int)), (.string (bs ([]))), (.string (bs ([]))), (.string (bs ([]))), (.string (bs ([]))), (.string (bs ([]))), (.int .u8 (0 : Int)), (.int .u64 (0 : Int)), (.int .u64 (0 : Int)), (.slice none 0 0), (.int .u8 (0 : Int)), (.int .u8 (0 : Int)), (.int .u8 (0 : Int)), (.int .u8 (0 : Int)), (.int .u8 (0 : Int)), (.int .u8 (0 : Int)), (.int .u8 (0 : Int)), (.int .u8 (0 : Int)), (.int .u8 (0 : Int)), (.int .u8 (0 : Int)), (.int .u8 (0 : Int)), (.int .i64 (0 : Int)), (.int .i64 (0 : Int)), (.int .i64 (0 : Int)), (.int .i64 (0 : Int)), (.int .u8 (0 : Int))]) rfl rfl rfl ?_
   refine WS.st1 (M3.focus 0 rfl) [_, _, _, _, _, _, _, _, _, _, _, _, _, _, _, _, _, _, _, _, _, _, _, _, _, _, _, _, _, _, _, _, _, _, _, _, _] [_, _, _, _, _, _, _, _, _, _, _, _, _, _, _, _, _, _, _, _, _, _, _, _, _, _, _, _, _, _, _, _, _, _, _, _, _] rfl rfl rfl rfl rfl (Nat.le_of_ble_eq_true rfl) (Nat.le_of_ble_eq_true rfl) rfl rfl ?_
   intro h4 M5
   replace M5 : Mem _ _ ([(p1, _)] :: []) _ := M5
   refine WS.op rfl rfl (WS.nil [(2, _), (3, _)] rfl ?_)
   refine WC.ret ?_
   refine ⟨[_, _], (res_cellN [_, _, _, _, _, _, _, _, _, _, _, _, _, _, _, _, _, _, _, _, _, _, _, _, _, _, _, _, _, _, _, _, _, _, _, _, _] rfl (M5.at 0 rfl) (Nat.le_of_ble_eq_true rfl) rfl (res_tmp rfl res_nil)), ?_⟩
   have hno : ∀ f0, GoodF f0 → encF f0 ≠ s := by
     first
     | exact noF_short (by omega)
     | exact noF_1 x (by omega) (by rw [show ok25 = false by assumption] at hC25; exact hC25)
     | exact noF_2 x (by omega) (by rw [show ok34 = false by assumption] at hC34; exact hC34)
     | exact noF_0 x (by omega) (by omega)
   exact ⟨zeroF, .slice none 0 0, [], false, .nil, rfl, fit0, rdF_no hno, (M5.bare.take 0).nils⟩
  ·
   refine WS.nil [(0, _), (2, _), (8, _)] rfl ?_
   refine WC.condF rfl ?_
   refine WC.skip ?_
   refine WC.seq ?_
   refine WC.run ?_
   refine WS.op rfl rfl ?_
   obtain ⟨c6, hc7⟩ : ∃ c, (s)[0]? = some c := ⟨_, List.getElem?_eq_getElem (show 0 < (s).length by first | omega | (simp only [List.length_drop, List.length_take, List.length_append, List.length_cons, List.length_nil, List.length_singleton]; omega) | (simp only [List.length_drop, List.length_take, List.length_append, List.length_cons, List.length_nil, List.length_singleton] at *; omega))⟩
   refine WS.op rfl (op_ixS 0 rfl rfl hc7) (WS.opV (.agg #[(.int .u8 (((c6).toNat : Nat) : Int)), (.int .u8 (0 : Int)), (.int .u8 (0 : Int)), (.int .u8 (0 : Int)), (.int .u8 (0 : Int)), (.int .u8 (0 : Int)), (.int .u8 (0 : Int)), (.int .u8 (0 : Int)), (.int .u8 (0 : Int)), (.int .u8 (0 : Int)), (.int .u64 (0 : Int)), (.int .u64 (0 : Int)), (.string (bs ([]))), (.string (bs ([]))), (.string (bs ([]))), (.string (bs ([]))), (.string (bs ([]))), (.int .u8 (0 : Int)), (.int .u64 (0 : Int)), (.int .u64 (0 : Int)), (.slice none 0 0), (.int .u8 (0 : Int)), (.int .u8 (0 : Int)), (.int .u8 (0 : Int)), (.int .u8 (0 : Int)), (.int .u8 (0 : Int)), (.int .u8 (0 : Int)), (.int .u8 (0 : Int)), (.int .u8 (0 : Int)), (.int .u8 (0 : Int)), (.int .u8 (0 : Int)), (.int .u8 (0 : Int)), (.int .i64 (0 : Int)), (.int .i64 (0 : Int)), (.int .i64 (0 : Int)), (.int .i64 (0 : Int)), (.int .u8 (0 : Int))]) rfl rfl rfl ?_)
   refine WS.new M3 rfl ?_
   intro p8 h9 M10
   refine WS.st1 (M10.focus 0 rfl) [_, _, _, _, _, _, _, _, _, _, _, _, _, _, _, _, _, _, _, _, _, _, _, _, _, _, _, _, _, _, _, _, _, _, _, _, _] [_, _, _, _, _, _, _, _, _, _, _, _, _, _, _, _, _, _, _, _, _, _, _, _, _, _, _, _, _, _, _, _, _, _, _, _, _] rfl rfl rfl rfl rfl (Nat.le_of_ble_eq_true rfl) (Nat.le_of_ble_eq_true rfl) rfl rfl ?_
   intro h11 M12
   replace M12 : Mem _ _ ([(p8, _)] :: [(p1, _)] :: []) _ := M12
   refine WS.nil [(0, _), (2, _), (4, _)] rfl ?_
   refine WC.seq ?_
   refine WC.draw M12 [] rfl ?_
   intro rb13 h14 M15
   refine WS.op rfl rfl (WS.opV (.slice (some ⟨p8, 1, none⟩) 8 17) rfl rfl rfl (WS.op rfl rfl (WS.op rfl (op_slS0 (l := s) 1 rfl rfl (by first | omega | (simp only [List.length_drop, List.length_take, List.length_append, List.length_cons, List.length_nil, List.length_singleton]; omega) | (simp only [List.length_drop, List.length_take, List.length_append, List.length_cons, List.length_nil, List.length_singleton] at *; omega))) ?_)))
   obtain ⟨c16, c17, c18, c19, c20, c21, c22, c23, h8_24⟩ := take8 (l := ((s).drop 1)) (by first | omega | (simp only [List.length_drop, List.length_take, List.length_append, List.length_cons, List.length_nil, List.length_singleton]; omega) | (simp only [List.length_drop, List.length_take, List.length_append, List.length_cons, List.length_nil, List.length_singleton] at *; omega))
   refine WS.cpyS (l := ((s).drop 1)) (M15.focus 0 rfl) [(.int .u8 (((c16).toNat : Nat) : Int)), (.int .u8 (((c17).toNat : Nat) : Int)), (.int .u8 (((c18).toNat : Nat) : Int)), (.int .u8 (((c19).toNat : Nat) : Int)), (.int .u8 (((c20).toNat : Nat) : Int)), (.int .u8 (((c21).toNat : Nat) : Int)), (.int .u8 (((c22).toNat : Nat) : Int)), (.int .u8 (((c23).toNat : Nat) : Int))] [_, _, _, _, _, _, _, _, _, _, _, _, _, _, _, _, _, _, _, _, _, _, _, _, _, _, _, _, _, _, _, _, _, _, _, _, _] rfl rfl rfl rfl (by rw [h8_24]; rfl) rfl (Nat.le_of_ble_eq_true rfl) (Nat.le_of_ble_eq_true rfl) rfl rfl ?_
   intro h25 M26
   replace M26 : Mem _ _ ([(p8, _)] :: [(p1, _)] :: []) _ := M26
   refine WS.nil [(0, _), (2, _), (4, _)] rfl ?_
   refine WC.seq ?_
   refine WC.run ?_
   refine WS.op rfl rfl (WS.nil [(0, _), (2, _), (4, _), (5, _)] rfl ?_)
   refine WC.seq ?_
   refine WC.seq ?_
   refine WC.run ?_
   refine WS.op rfl rfl (WS.op rfl (op_ld (M26.bare.at 0 rfl) rfl rfl) (WS.nil [(0, _), (2, _), (4, _), (5, _), (19, _)] rfl ?_))
   refine WC.block ?_
   refine WC.seq ?_
   refine WC.run ?_
   refine WS.eqlN (a := (c6).toNat) (b := 1) rfl rfl rfl (fun e21 => ?_) (fun e21 => ?_)
   ·
    refine WS.op rfl rfl (WS.nil [(0, _), (2, _), (4, _), (5, _), (19, _), (20, _)] rfl ?_)
    refine WC.condT rfl ?_
    refine WC.run ?_
    refine WS.op rfl rfl (WS.op rfl (op_slS0 (l := s) 9 rfl rfl (by first | omega | (simp only [List.length_drop, List.length_take, List.length_append, List.length_cons, List.length_nil, List.length_singleton]; omega) | (simp only [List.length_drop, List.length_take, List.length_append, List.length_cons, List.length_nil, List.length_singleton] at *; omega))) ?_)
    refine WS.call rfl rfl rfl (Read_ran M26.bare.here (s := ((s).drop 9)) (by first | omega | (simp only [List.length_drop, List.length_take, List.length_append, List.length_cons, List.length_nil, List.length_singleton]; omega) | (simp only [List.length_drop, List.length_take, List.length_append, List.length_cons, List.length_nil, List.length_singleton] at *; omega))) ?_
    rintro _ h27 ⟨c25, V30, S31, ok25, O32, rfl, hF25, hy25, hn25, hC25, N28⟩
    obtain ⟨P33, rfl⟩ := O32.shape
    have M29 := M26.bare.trans N28
    replace M29 : Mem _ _ (S31 :: [(p8, _)] :: [(p1, _)] :: []) _ := M29
    refine WS.op rfl rfl (WS.op rfl rfl (WS.op rfl rfl (WS.op rfl rfl ?_)))
    refine WS.st1 (M29.focus 1 rfl) [_, _, _, _, _, _, _, _, _, _, _, _] [_, _, _, _, _, _, _, _, _, _, _, _, _, _, _, _, _, _, _, _, _, _, _, _, _, _, _, _, _, _, _, _, _, _, _, _, _] rfl rfl rfl rfl rfl (Nat.le_of_ble_eq_true rfl) (Nat.le_of_ble_eq_true rfl) rfl rfl ?_
    intro h34 M35
    replace M35 : Mem _ _ ([(p8, _)] :: S31 :: [(p1, _)] :: []) _ := M35
    refine WS.op rfl rfl (WS.nil [(2, _), (4, _), (5, _)] rfl ?_)
    refine WC.seq ?_
    refine WC.seq ?_
    refine WC.run ?_
    refine WS.op rfl rfl ?_
    cases hb1 : ok25
    ·
     refine WS.opV (.bool true) rfl rfl rfl (WS.nil [(2, _), (4, _), (39, _)] rfl ?_)
     refine WC.condT rfl ?_
     refine WC.seq ?_
     refine WC.run ?_
     refine WS.opV (.agg #[(.int .u8 (0 : Int)), (.int .u8 (0 : Int)), (.int .u8 (0 : Int)), (.int .u8 (0 : Int)), (.int .u8 (0 : Int)), (.int .u8 (0 : Int)), (.int .u8 (0 : Int)), (.int .u8 (0 : Int)), (.int .u8 (0 : Int)), (.int .u8 (0 : Int)), (.int .u64 (0 : Int)), (.int .u64 (0 : Int)), (.string (bs ([]))), (.string (bs ([]))), (.string (bs ([]))), (.string (bs ([]))), (.string (bs ([]))), (.int .u8 (0 : Int)), (.int .u64 (0 : Int)), (.int .u64 (0 : Int)), (.slice none 0 0), (.int .u8 (0 : Int)), (.int .u8 (0 : Int)), (.int .u8 (0 : Int)), (.int .u8 (0 : Int)), (.int .u8 (0 : Int)), (.int .u8 (0 : Int)), (.int .u8 (0 : Int)), (.int .u8 (0 : Int)), (.int .u8 (0 : Int)), (.int .u8 (0 : Int)), (.int .u8 (0 : Int)), (.int .i64 (0 : Int)), (.int .i64 (0 : Int)), (.int .i64 (0 : Int)), (.int .i64 (0 : Int)), (.int .u8 (0 : Int))]) rfl rfl rfl ?_
     refine WS.st1 (M35.focus 2 rfl) [_, _, _, _, _, _, _, _, _, _, _, _, _, _, _, _, _, _, _, _, _, _, _, _, _, _, _, _, _, _, _, _, _, _, _, _, _] [_, _, _, _, _, _, _, _, _, _, _, _, _, _, _, _, _, _, _, _, _, _, _, _, _, _, _, _, _, _, _, _, _, _, _, _, _] rfl rfl rfl rfl rfl (Nat.le_of_ble_eq_true rfl) (Nat.le_of_ble_eq_true rfl) rfl rfl ?_
     intro h36 M37
     replace M37 : Mem _ _ ([(p1, _)] :: [(p8, _)] :: S31 :: []) _ := M37
     refine WS.op rfl rfl (WS.nil [(2, _), (3, _)] rfl ?_)
     refine WC.ret ?_
     refine ⟨[_, _], (res_cellN [_, _, _, _, _, _, _, _, _, _, _, _, _, _, _, _, _, _, _, _, _, _, _, _, _, _, _, _, _, _, _, _, _, _, _, _, _] rfl (M37.at 0 rfl) (Nat.le_of_ble_eq_true rfl) rfl (res_tmp rfl res_nil)), ?_⟩
     have hno : ∀ f0, GoodF f0 → encF f0 ≠ s := by
       first
       | exact noF_short (by omega)
       | exact noF_1 hc7 (by omega) (by rw [show ok25 = false by assumption] at hC25; exact hC25)
       | exact noF_2 hc7 (by omega) (by rw [show ok34 = false by assumption] at hC34; exact hC34)
       | exact noF_0 hc7 (by omega) (by omega)
     exact ⟨zeroF, .slice none 0 0, [], false, .nil, rfl, fit0, rdF_no hno, (M37.bare.take 0).nils⟩
    ·
     refine WS.opV (.bool false) rfl rfl rfl (WS.nil [(2, _), (4, _), (39, _)] rfl ?_)
     refine WC.condF rfl ?_
     refine WC.skip ?_
     refine WC.seq ?_
     refine WC.run ?_
     refine WS.op rfl (op_lds [_, _, _, _, _, _, _, _, _, _, _, _, _, _, _, _, _, _, _, _, _, _, _, _, _, _, _, _, _, _, _, _, _, _, _, _, _] (M35.at 0 rfl) rfl (Nat.le_of_ble_eq_true rfl) rfl) ?_
     refine WS.st1 (M35.focus 2 rfl) [_, _, _, _, _, _, _, _, _, _, _, _, _, _, _, _, _, _, _, _, _, _, _, _, _, _, _, _, _, _, _, _, _, _, _, _, _] [_, _, _, _, _, _, _, _, _, _, _, _, _, _, _, _, _, _, _, _, _, _, _, _, _, _, _, _, _, _, _, _, _, _, _, _, _] rfl rfl rfl rfl rfl (Nat.le_of_ble_eq_true rfl) (Nat.le_of_ble_eq_true rfl) rfl rfl ?_
     intro h38 M39
     replace M39 : Mem _ _ ([(p1, _)] :: [(p8, _)] :: S31 :: []) _ := M39
     refine WS.op rfl rfl (WS.nil [(2, _), (3, _)] rfl ?_)
     refine WC.ret ?_
     refine ⟨[_, _], (res_cellN [_, _, _, _, _, _, _, _, _, _, _, _, _, _, _, _, _, _, _, _, _, _, _, _, _, _, _, _, _, _, _, _, _, _, _, _, _] rfl (M39.at 0 rfl) (Nat.le_of_ble_eq_true rfl) rfl (res_tmp rfl res_nil)), ?_⟩
     obtain ⟨g1, g2⟩ := hC25.1 (by assumption)
     have hh : s = [c6, c16, c17, c18, c19, c20, c21, c22, c23] ++ s.drop 9 := hd9 hc7 h8_24
     have henc : encF (⟨c6, c16, c17, c18, c19, c20, c21, c22, c23, c25, (⟨0, 0, 0, 0, 0, 0, 0, 0, 0, 0, 0, 0, 0, 0, 0, 0⟩ : Oper)⟩ : Frm) = s := by
       unfold encF
       rw [tailF_1 (by dsimp only; omega)]
       dsimp only
       rw [g2]
       exact hh.symm
     exact ⟨(⟨c6, c16, c17, c18, c19, c20, c21, c22, c23, c25, (⟨0, 0, 0, 0, 0, 0, 0, 0, 0, 0, 0, 0, 0, 0, 0, 0⟩ : Oper)⟩ : Frm), _, _, true, O32, rfl, hF25, rdF_yes ⟨.inl ⟨by dsimp only; omega, rfl, g1⟩, hF25⟩ henc, ((M39.bare.focus 2 rfl).take 1)⟩
   ·
    refine WS.op rfl rfl (WS.nil [(0, _), (2, _), (4, _), (5, _), (19, _), (20, _)] rfl ?_)
    refine WC.condF rfl ?_
    refine WC.seq ?_
    refine WC.run ?_
    refine WS.eqlN (a := (c6).toNat) (b := 2) rfl rfl rfl (fun e30 => ?_) (fun e30 => ?_)
    ·
     refine WS.op rfl rfl (WS.nil [(0, _), (2, _), (4, _), (5, _), (29, _)] rfl ?_)
     refine WC.condT rfl ?_
     refine WC.run ?_
     refine WS.op rfl rfl (WS.op rfl (op_slS0 (l := s) 9 rfl rfl (by first | omega | (simp only [List.length_drop, List.length_take, List.length_append, List.length_cons, List.length_nil, List.length_singleton]; omega) | (simp only [List.length_drop, List.length_take, List.length_append, List.length_cons, List.length_nil, List.length_singleton] at *; omega))) ?_)
     refine WS.call rfl rfl rfl (ReadO_ran M26.bare.here (s := ((s).drop 9)) (by first | omega | (simp only [List.length_drop, List.length_take, List.length_append, List.length_cons, List.length_nil, List.length_singleton]; omega) | (simp only [List.length_drop, List.length_take, List.length_append, List.length_cons, List.length_nil, List.length_singleton] at *; omega))) ?_
     rintro _ h40 ⟨o34, ok34, rfl, hy34, hn34, hC34, N41⟩
     have M42 := M26.bare.trans N41
     refine WS.op rfl rfl (WS.op rfl rfl (WS.op rfl rfl (WS.op rfl rfl ?_)))
     refine WS.st1 (M42.focus 0 rfl) [_, _, _, _, _, _, _, _, _, _, _, _, _, _, _, _] [_, _, _, _, _, _, _, _, _, _, _, _, _, _, _, _, _, _, _, _, _, _, _, _, _, _, _, _, _, _, _, _, _, _, _, _, _] rfl rfl rfl rfl rfl (Nat.le_of_ble_eq_true rfl) (Nat.le_of_ble_eq_true rfl) rfl rfl ?_
     intro h43 M44
     replace M44 : Mem _ _ ([(p8, _)] :: [(p1, _)] :: []) _ := M44
     refine WS.op rfl rfl (WS.nil [(2, _), (4, _), (5, _)] rfl ?_)
     refine WC.seq ?_
     refine WC.seq ?_
     refine WC.run ?_
     refine WS.op rfl rfl ?_
     cases hb2 : ok34
     ·
      refine WS.opV (.bool true) rfl rfl rfl (WS.nil [(2, _), (4, _), (39, _)] rfl ?_)
      refine WC.condT rfl ?_
      refine WC.seq ?_
      refine WC.run ?_
      refine WS.opV (.agg #[(.int .u8 (0 : Int)), (.int .u8 (0 : Int)), (.int .u8 (0 : Int)), (.int .u8 (0 : Int)), (.int .u8 (0 : Int)), (.int .u8 (0 : Int)), (.int .u8 (0 : Int)), (.int .u8 (0 : Int)), (.int .u8 (0 : Int)), (.int .u8 (0 : Int)), (.int .u64 (0 : Int)), (.int .u64 (0 : Int)), (.string (bs ([]))), (.string (bs ([]))), (.string (bs ([]))), (.string (bs ([]))), (.string (bs ([]))), (.int .u8 (0 : Int)), (.int .u64 (0 : Int)), (.int .u64 (0 : Int)), (.slice none 0 0), (.int .u8 (0 : Int)), (.int .u8 (0 : Int)), (.int .u8 (0 : Int)), (.int .u8 (0 : Int)), (.int .u8 (0 : Int)), (.int .u8 (0 : Int)), (.int .u8 (0 : Int)), (.int .u8 (0 : Int)), (.int .u8 (0 : Int)), (.int .u8 (0 : Int)), (.int .u8 (0 : Int)), (.int .i64 (0 : Int)), (.int .i64 (0 : Int)), (.int .i64 (0 : Int)), (.int .i64 (0 : Int)), (.int .u8 (0 : Int))]) rfl rfl rfl ?_
      refine WS.st1 (M44.focus 1 rfl) [_, _, _, _, _, _, _, _, _, _, _, _, _, _, _, _, _, _, _, _, _, _, _, _, _, _, _, _, _, _, _, _, _, _, _, _, _] [_, _, _, _, _, _, _, _, _, _, _, _, _, _, _, _, _, _, _, _, _, _, _, _, _, _, _, _, _, _, _, _, _, _, _, _, _] rfl rfl rfl rfl rfl (Nat.le_of_ble_eq_true rfl) (Nat.le_of_ble_eq_true rfl) rfl rfl ?_
      intro h45 M46
      replace M46 : Mem _ _ ([(p1, _)] :: [(p8, _)] :: []) _ := M46
      refine WS.op rfl rfl (WS.nil [(2, _), (3, _)] rfl ?_)
      refine WC.ret ?_
      refine ⟨[_, _], (res_cellN [_, _, _, _, _, _, _, _, _, _, _, _, _, _, _, _, _, _, _, _, _, _, _, _, _, _, _, _, _, _, _, _, _, _, _, _, _] rfl (M46.at 0 rfl) (Nat.le_of_ble_eq_true rfl) rfl (res_tmp rfl res_nil)), ?_⟩
      have hno : ∀ f0, GoodF f0 → encF f0 ≠ s := by
        first
        | exact noF_short (by omega)
        | exact noF_1 hc7 (by omega) (by rw [show ok25 = false by assumption] at hC25; exact hC25)
        | exact noF_2 hc7 (by omega) (by rw [show ok34 = false by assumption] at hC34; exact hC34)
        | exact noF_0 hc7 (by omega) (by omega)
      exact ⟨zeroF, .slice none 0 0, [], false, .nil, rfl, fit0, rdF_no hno, (M46.bare.take 0).nils⟩
     ·
      refine WS.opV (.bool false) rfl rfl rfl (WS.nil [(2, _), (4, _), (39, _)] rfl ?_)
      refine WC.condF rfl ?_
      refine WC.skip ?_
      refine WC.seq ?_
      refine WC.run ?_
      refine WS.op rfl (op_lds [_, _, _, _, _, _, _, _, _, _, _, _, _, _, _, _, _, _, _, _, _, _, _, _, _, _, _, _, _, _, _, _, _, _, _, _, _] (M44.at 0 rfl) rfl (Nat.le_of_ble_eq_true rfl) rfl) ?_
      refine WS.st1 (M44.focus 1 rfl) [_, _, _, _, _, _, _, _, _, _, _, _, _, _, _, _, _, _, _, _, _, _, _, _, _, _, _, _, _, _, _, _, _, _, _, _, _] [_, _, _, _, _, _, _, _, _, _, _, _, _, _, _, _, _, _, _, _, _, _, _, _, _, _, _, _, _, _, _, _, _, _, _, _, _] rfl rfl rfl rfl rfl (Nat.le_of_ble_eq_true rfl) (Nat.le_of_ble_eq_true rfl) rfl rfl ?_
      intro h47 M48
      replace M48 : Mem _ _ ([(p1, _)] :: [(p8, _)] :: []) _ := M48
      refine WS.op rfl rfl (WS.nil [(2, _), (3, _)] rfl ?_)
      refine WC.ret ?_
      refine ⟨[_, _], (res_cellN [_, _, _, _, _, _, _, _, _, _, _, _, _, _, _, _, _, _, _, _, _, _, _, _, _, _, _, _, _, _, _, _, _, _, _, _, _] rfl (M48.at 0 rfl) (Nat.le_of_ble_eq_true rfl) rfl (res_tmp rfl res_nil)), ?_⟩
      obtain ⟨g1, g2⟩ := hC34.1 (by assumption)
      have hh : s = [c6, c16, c17, c18, c19, c20, c21, c22, c23] ++ s.drop 9 := hd9 hc7 h8_24
      have henc : encF (⟨c6, c16, c17, c18, c19, c20, c21, c22, c23, (⟨0, 0, 0, ([]), ([]), ([]), ([]), ([]), 0, 0, 0, []⟩ : Cmd), o34⟩ : Frm) = s := by
        unfold encF
        rw [tailF_2 (by dsimp only; omega)]
        dsimp only
        rw [g2]
        exact hh.symm
      exact ⟨(⟨c6, c16, c17, c18, c19, c20, c21, c22, c23, (⟨0, 0, 0, ([]), ([]), ([]), ([]), ([]), 0, 0, 0, []⟩ : Cmd), o34⟩ : Frm), _, _, true, .nil, rfl, fit0, rdF_yes ⟨.inr ⟨by dsimp only; omega, rfl, g1⟩, fit0⟩ henc, (M48.bare.take 0).nils⟩
    ·
     refine WS.op rfl rfl (WS.nil [(0, _), (2, _), (4, _), (5, _), (29, _)] rfl ?_)
     refine WC.condF rfl ?_
     refine WC.skip ?_
     refine WC.seq ?_
     refine WC.seq ?_
     refine WC.run ?_
     refine WS.op rfl rfl (WS.opV (.bool true) rfl rfl rfl (WS.nil [(2, _), (4, _), (39, _)] rfl ?_))
     refine WC.condT rfl ?_
     refine WC.seq ?_
     refine WC.run ?_
     refine WS.opV (.agg #[(.int .u8 (0 : Int)), (.int .u8 (0 : Int)), (.int .u8 (0 : Int)), (.int .u8 (0 : Int)), (.int .u8 (0 : Int)), (.int .u8 (0 : Int)), (.int .u8 (0 : Int)), (.int .u8 (0 : Int)), (.int .u8 (0 : Int)), (.int .u8 (0 : Int)), (.int .u64 (0 : Int)), (.int .u64 (0 : Int)), (.string (bs ([]))), (.string (bs ([]))), (.string (bs ([]))), (.string (bs ([]))), (.string (bs ([]))), (.int .u8 (0 : Int)), (.int .u64 (0 : Int)), (.int .u64 (0 : Int)), (.slice none 0 0), (.int .u8 (0 : Int)), (.int .u8 (0 : Int)), (.int .u8 (0 : Int)), (.int .u8 (0 : Int)), (.int .u8 (0 : Int)), (.int .u8 (0 : Int)), (.int .u8 (0 : Int)), (.int .u8 (0 : Int)), (.int .u8 (0 : Int)), (.int .u8 (0 : Int)), (.int .u8 (0 : Int)), (.int .i64 (0 : Int)), (.int .i64 (0 : Int)), (.int .i64 (0 : Int)), (.int .i64 (0 : Int)), (.int .u8 (0 : Int))]) rfl rfl rfl ?_
     refine WS.st1 (M26.bare.focus 1 rfl) [_, _, _, _, _, _, _, _, _, _, _, _, _, _, _, _, _, _, _, _, _, _, _, _, _, _, _, _, _, _, _, _, _, _, _, _, _] [_, _, _, _, _, _, _, _, _, _, _, _, _, _, _, _, _, _, _, _, _, _, _, _, _, _, _, _, _, _, _, _, _, _, _, _, _] rfl rfl rfl rfl rfl (Nat.le_of_ble_eq_true rfl) (Nat.le_of_ble_eq_true rfl) rfl rfl ?_
     intro h49 M50
     replace M50 : Mem _ _ ([(p1, _)] :: [(p8, _)] :: []) _ := M50
     refine WS.op rfl rfl (WS.nil [(2, _), (3, _)] rfl ?_)
     refine WC.ret ?_
     refine ⟨[_, _], (res_cellN [_, _, _, _, _, _, _, _, _, _, _, _, _, _, _, _, _, _, _, _, _, _, _, _, _, _, _, _, _, _, _, _, _, _, _, _, _] rfl (M50.at 0 rfl) (Nat.le_of_ble_eq_true rfl) rfl (res_tmp rfl res_nil)), ?_⟩
     have hno : ∀ f0, GoodF f0 → encF f0 ≠ s := by
       first
       | exact noF_short (by omega)
       | exact noF_1 hc7 (by omega) (by rw [show ok25 = false by assumption] at hC25; exact hC25)
       | exact noF_2 hc7 (by omega) (by rw [show ok34 = false by assumption] at hC34; exact hC34)
       | exact noF_0 hc7 (by omega) (by omega)
     exact ⟨zeroF, .slice none 0 0, [], false, .nil, rfl, fit0, rdF_no hno, (M50.bare.take 0).nils⟩
set_option maxRecDepth 8000 in
theorem SameF_ran (W : Mem h h [] []) {a b : Frm} {V V2 : Value} (A : KPart.Sl h V a.c.ps) (B : KPart.Sl h V2 b.c.ps) (hl : a.c.ps.length ≤ 1000000) : Cll tab0 22 [a.val V, b.val V2] h (fun v h2 => v = .bool (decide (a = b)) ∧ Mem h h2 [] []) := by
  obtain ⟨P, n, rfl⟩ := A.shape
  obtain ⟨P2, n2, rfl⟩ := B.shape
  refine Cll.code rfl rfl ?_
  refine WC.env [(0, _), (1, _)] rfl ?_
  refine WC.seq ?_
  refine WC.run ?_
  refine WS.box W [_, _, _, _, _, _, _, _, _, _, _, _, _, _, _, _, _, _, _, _, _, _, _, _, _, _, _, _, _, _, _, _, _, _, _, _, _] rfl rfl rfl rfl ?_
  intro p1 h2 M3
  refine WS.box M3 [_, _, _, _, _, _, _, _, _, _, _, _, _, _, _, _, _, _, _, _, _, _, _, _, _, _, _, _, _, _, _, _, _, _, _, _, _] rfl rfl rfl rfl ?_
  intro p4 h5 M6
  refine WS.op rfl rfl (WS.nil [(2, _), (3, _)] rfl ?_)
  refine WC.seq ?_
  refine WC.run ?_
  refine WS.op rfl rfl (WS.op rfl (op_ld (M6.at 1 rfl) rfl rfl) (WS.op rfl rfl (WS.op rfl (op_ld (M6.at 0 rfl) rfl rfl) ?_)))
  refine WS.eqlN (a := (a.kd).toNat) (b := (b.kd).toNat) rfl rfl rfl (fun e9 => ?_) (fun e9 => ?_)
  ·
   refine WS.op rfl rfl (WS.op rfl rfl (WS.op rfl (op_lds [_, _, _, _, _, _, _, _] (M6.at 1 rfl) rfl (Nat.le_of_ble_eq_true rfl) rfl) (WS.op rfl rfl (WS.op rfl (op_lds [_, _, _, _, _, _, _, _] (M6.at 0 rfl) rfl (Nat.le_of_ble_eq_true rfl) rfl) ?_))))
   refine WS.eqqD (p := (a.t0).toNat = (b.t0).toNat ∧ (a.t1).toNat = (b.t1).toNat ∧ (a.t2).toNat = (b.t2).toNat ∧ (a.t3).toNat = (b.t3).toNat ∧ (a.t4).toNat = (b.t4).toNat ∧ (a.t5).toNat = (b.t5).toNat ∧ (a.t6).toNat = (b.t6).toNat ∧ (a.t7).toNat = (b.t7).toNat) rfl rfl rfl (by show some _ = _; simp only [int_beq, int_beq0, str_beq, bool_beq, Bool.decide_and, Bool.and_true]) (fun e15 => ?_) (fun e15 => ?_)
   ·
    refine WS.op rfl rfl (WS.op rfl rfl (WS.op rfl rfl (WS.op rfl (op_lds [_, _, _, _, _, _, _, _, _, _, _, _, _, _, _, _] (M6.at 1 rfl) rfl (Nat.le_of_ble_eq_true rfl) rfl) (WS.op rfl rfl (WS.op rfl (op_lds [_, _, _, _, _, _, _, _, _, _, _, _, _, _, _, _] (M6.at 0 rfl) rfl (Nat.le_of_ble_eq_true rfl) rfl) ?_)))))
    refine WS.eqqD (p := a.o = b.o) rfl rfl rfl (Oper_eqV _ _) (fun e22 => ?_) (fun e22 => ?_)
    ·
     refine WS.op rfl rfl (WS.op rfl rfl (WS.op rfl rfl (WS.op rfl (op_lds [_, _, _, _, _, _, _, _, _, _, _, _] (M6.at 1 rfl) rfl (Nat.le_of_ble_eq_true rfl) rfl) (WS.op rfl rfl (WS.op rfl (op_lds [_, _, _, _, _, _, _, _, _, _, _, _] (M6.at 0 rfl) rfl (Nat.le_of_ble_eq_true rfl) rfl) ?_)))))
     refine WS.call rfl rfl rfl (Same_ran M6.here (a := a.c) (b := b.c) (A.mono M6.sub) (B.mono M6.sub) (by omega)) ?_
     rintro _ h7 ⟨rfl, N8⟩
     have M9 := M6.trans N8
     refine WS.op rfl rfl (WS.op rfl rfl (WS.nil [(4, _)] rfl ?_))
     refine WC.ret ?_
     cases hb1 : (decide (a.c = b.c))
     ·
      refine ⟨[_], (res_tmp rfl res_nil), ?_⟩
      exact ⟨vbf (fun q => by first | exact absurd (by rw [q]) e9 | exact absurd (by rw [q]; simp) e15 | exact absurd (by rw [q]) e22 | exact absurd (by rw [q]) (of_decide_eq_false (p := a.c = b.c) (by assumption))), M9.bare.take 0⟩
     ·
      refine ⟨[_], (res_tmp rfl res_nil), ?_⟩
      obtain ⟨w0, w1, w2, w3, w4, w5, w6, w7⟩ := e15
      exact ⟨vbt (by have q := of_decide_eq_true (p := a.c = b.c) (by assumption); obtain ⟨⟩ := a; obtain ⟨⟩ := b; simp only at *; rw [u8_inj e9, u8_inj w0, u8_inj w1, u8_inj w2, u8_inj w3, u8_inj w4, u8_inj w5, u8_inj w6, u8_inj w7, q, e22]), M9.bare.take 0⟩
    ·
     refine WS.op rfl rfl (WS.op rfl rfl (WS.off rfl (WS.off rfl (WS.off rfl (WS.off rfl (WS.offC rfl (WS.op rfl rfl (WS.op rfl rfl (WS.nil [(4, _)] rfl ?_)))))))))
     refine WC.ret ?_
     refine ⟨[_], (res_tmp rfl res_nil), ?_⟩
     exact ⟨vbf (fun q => by first | exact absurd (by rw [q]) e9 | exact absurd (by rw [q]; simp) e15 | exact absurd (by rw [q]) e22 | exact absurd (by rw [q]) (of_decide_eq_false (p := a.c = b.c) (by assumption))), M6.bare.take 0⟩
   ·
    refine WS.op rfl rfl (WS.op rfl rfl (WS.off rfl (WS.off rfl (WS.off rfl (WS.off rfl (WS.off rfl (WS.op rfl rfl (WS.op rfl rfl (WS.off rfl ?_)))))))))
    refine WS.off rfl (WS.off rfl (WS.off rfl (WS.offC rfl (WS.op rfl rfl (WS.op rfl rfl (WS.nil [(4, _)] rfl ?_))))))
    refine WC.ret ?_
    refine ⟨[_], (res_tmp rfl res_nil), ?_⟩
    exact ⟨vbf (fun q => by first | exact absurd (by rw [q]) e9 | exact absurd (by rw [q]; simp) e15 | exact absurd (by rw [q]) e22 | exact absurd (by rw [q]) (of_decide_eq_false (p := a.c = b.c) (by assumption))), M6.bare.take 0⟩
  ·
   refine WS.op rfl rfl (WS.off rfl (WS.off rfl (WS.off rfl (WS.off rfl (WS.off rfl (WS.op rfl rfl (WS.op rfl rfl (WS.off rfl (WS.off rfl ?_)))))))))
   refine WS.off rfl (WS.off rfl (WS.off rfl (WS.op rfl rfl (WS.op rfl rfl (WS.off rfl (WS.off rfl (WS.off rfl (WS.off rfl (WS.offC rfl ?_)))))))))
   refine WS.op rfl rfl (WS.op rfl rfl (WS.nil [(4, _)] rfl ?_))
   refine WC.ret ?_
   refine ⟨[_], (res_tmp rfl res_nil), ?_⟩
   exact ⟨vbf (fun q => by first | exact absurd (by rw [q]) e9 | exact absurd (by rw [q]; simp) e15 | exact absurd (by rw [q]) e22 | exact absurd (by rw [q]) (of_decide_eq_false (p := a.c = b.c) (by assumption))), M6.bare.take 0⟩
end Go.Proofs.Yteikngjiaboeaaa.Wt
