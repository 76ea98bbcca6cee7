/- The law 'FrameWrites' returns true for all arguments: what its proof stands on, part 8. -/
import Derived.Test.YteikngjiaboeaaaZFrameWrites7
import Derived.OpenShut
namespace Go.Proofs.Yteikngjiaboeaaa.Am
open Go
set_option linter.unusedVariables false
set_option linter.unusedSimpArgs false
abbrev BL := List (Option Blk × Option Am.Loc)
def CompR (r : Rho) (k : Nat) (bl : BL) : Prop := ∀ i p, bl[i]? = some p → r (k + i) = p.2
def CompH (h : H) (k : Nat) (bl : BL) : Prop := ∀ i p, bl[i]? = some p → ∀ B, p.1 = some B → h.get (k + i) = some B
def BlkOK (W : World) (r : Rho) (p : Option Blk × Option Am.Loc) : Prop := ∀ B, p.1 = some B → ∃ L c e fz, p.2 = some L ∧ W.heap[L.b]? = some (.cells c e fz) ∧ L.es = B.es ∧ B.cells.length ≤ L.lim ∧ L.o + L.lim ≤ c.size ∧ B.ro = true ∧
  ∀ (i : Nat) (v : Value), B.cells[i]? = some v → v.oneCell' = true ∧ ∃ v', c[L.o + i]? = some v' ∧ VR r v v'
theorem CompR.left {r : Rho} {k : Nat} {a b : BL} (h : CompR r k (a ++ b)) : CompR r k a := fun i p hp => h i p (by rw [List.getElem?_append_left (List.getElem?_eq_some_iff.1 hp).1]; exact hp)
theorem CompR.right {r : Rho} {k : Nat} {a b : BL} (h : CompR r k (a ++ b)) : CompR r (k + a.length) b := fun i p hp => by
  have := h (a.length + i) p (by rw [List.getElem?_append_right (by omega), Nat.add_sub_cancel_left]; exact hp)
  rw [← this]; congr 1; omega
theorem CompH.left {r : H} {k : Nat} {a b : BL} (h : CompH r k (a ++ b)) : CompH r k a := fun i p hp => h i p (by rw [List.getElem?_append_left (List.getElem?_eq_some_iff.1 hp).1]; exact hp)
theorem CompH.right {r : H} {k : Nat} {a b : BL} (h : CompH r k (a ++ b)) : CompH r (k + a.length) b := fun i p hp B hB => by
  have := h (a.length + i) p (by rw [List.getElem?_append_right (by omega), Nat.add_sub_cancel_left]; exact hp) B hB
  rw [← this]; congr 1; omega
abbrev Lay (α : Type) := H → α → List Value → Prop
def Given (W : World) (k n : Nat) {α : Type} (L : Lay α) (ok : α → Prop) (cs : List Value) : Prop :=
  ∃ (a : α) (bl : BL) (acs : List Value), acs.length = n ∧ acs.all (·.oneCell') = true ∧ (∀ r, CompR r k bl → (∀ p ∈ bl, BlkOK W r p) ∧ VL r acs cs) ∧ (∀ h, CompH h k bl → L h a acs) ∧ ok a
def OpensL (P : Program) (t : TypeId) {α : Type} (L : Lay α) (n : Nat) (ok : α → Prop) : Prop :=
  P.cellsOf t = n ∧ ∀ {Hh : Type} (enc : TypeId × Value → Hh) (W : World) (held : Bool) (fuel : Nat) (cs : List Value) (x : DataW Hh × List MemPlace), DataW.trod enc P W 0 (fun _ => true) held fuel t cs = some x → ∀ k, Given W k n L ok cs
section
variable {P : Program} {t e : TypeId}
theorem given_plain {W : World} {k : Nat} {α : Type} {L : Lay α} {ok : α → Prop} {v : Value} (a : α) (hp : plain1 v = true) (hL : ∀ h, L h a [v]) (ho : ok a) : Given W k 1 L ok [v] :=
  ⟨a, [], [v], rfl, by simp [oneCell_of_plain1 hp], fun r _ => ⟨fun p hp => by simp at hp, VL.cons (VR.of_plain1 hp) (VL.nil r)⟩, fun h _ => hL h, ho⟩
def layU8 : Lay UInt8 := fun _ a cs => cs = [.int .u8 ((a.toNat : Nat) : Int)]
def layU64 : Lay UInt64 := fun _ a cs => cs = [.int .u64 ((a.toNat : Nat) : Int)]
def layI64 : Lay Int64 := fun _ a cs => cs = [.int .i64 a.toInt]
def layStr : Lay (List UInt8) := fun _ a cs => cs = [.string (bs a)]
theorem OpensL.u8 (ht : P.underlying t = some (.int .u8)) (hc : P.cellsOf t = 1) : OpensL P t layU8 1 (fun _ => True) := by
  refine ⟨hc, fun enc W held fuel cs x h k => ?_⟩
  obtain ⟨n, rfl, _, hw⟩ := DataW.trod_int ht h
  have hw : 0 ≤ n ∧ n ≤ 255 := by simpa [Lit.wf, IntKind.min, IntKind.max, IntKind.signed, IntKind.bits] using hw
  have e : n = (((UInt8.ofNat n.toNat).toNat : Nat) : Int) := by rw [UInt8.toNat_ofNat']; omega
  exact given_plain (UInt8.ofNat n.toNat) rfl (fun _ => by show _ = _; rw [← e]) trivial
theorem OpensL.u64 (ht : P.underlying t = some (.int .u64)) (hc : P.cellsOf t = 1) : OpensL P t layU64 1 (fun _ => True) := by
  refine ⟨hc, fun enc W held fuel cs x h k => ?_⟩
  obtain ⟨n, rfl, _, hw⟩ := DataW.trod_int ht h
  have hw : 0 ≤ n ∧ n ≤ 18446744073709551615 := by simpa [Lit.wf, IntKind.min, IntKind.max, IntKind.signed, IntKind.bits] using hw
  have e : n = (((UInt64.ofNat n.toNat).toNat : Nat) : Int) := by rw [UInt64.toNat_ofNat']; omega
  exact given_plain (UInt64.ofNat n.toNat) rfl (fun _ => by show _ = _; rw [← e]) trivial
theorem OpensL.i64 (ht : P.underlying t = some (.int .i64)) (hc : P.cellsOf t = 1) : OpensL P t layI64 1 (fun _ => True) := by
  refine ⟨hc, fun enc W held fuel cs x h k => ?_⟩
  obtain ⟨n, rfl, _, hw⟩ := DataW.trod_int ht h
  have hw : -9223372036854775808 ≤ n ∧ n ≤ 9223372036854775807 := by simpa [Lit.wf, IntKind.min, IntKind.max, IntKind.signed, IntKind.bits] using hw
  have e : (Int64.ofInt n).toInt = n := Int64.toInt_ofInt_of_le (by omega) (by omega)
  exact given_plain (Int64.ofInt n) rfl (fun _ => by show _ = _; rw [e]) trivial
theorem OpensL.string (ht : P.underlying t = some .string) (hc : P.cellsOf t = 1) : OpensL P t layStr 1 (fun a => a.length < 9223372036854775808) := by
  refine ⟨hc, fun enc W held fuel cs x h k => ?_⟩
  obtain ⟨s, rfl, _, hs⟩ := DataW.trod_string ht h
  obtain ⟨l, rfl⟩ := bs_of s
  rw [bs_size] at hs
  exact given_plain l rfl (fun _ => rfl) (Nat.lt_succ_of_le hs)
inductive SlL {α : Type} (L : Lay α) (n : Nat) (h : H) : Value → List α → Prop
  | nil : SlL L n h (.slice none 0 0) []
  | emp (a : Addr) (c : Nat) : SlL L n h (.slice (some a) 0 c) []
  | row (b c : Nat) (l : List α) (cells : List Value) (hg : h.get b = some ⟨cells, n, true⟩) (hl : cells.length = l.length * n) (he : ∀ (j : Nat) (y : α), l[j]? = some y → L h y ((cells.drop (j * n)).take n)) : SlL L n h (.slice (some ⟨b, 0, none⟩) l.length c) l
def laySl {α : Type} (L : Lay α) (n : Nat) : Lay (List α) := fun h l cs => ∃ V, cs = [V] ∧ SlL L n h V l
theorem chunk_append {α : Type} {a b : List α} {n q j : Nat} (ha : a.length = q * n) (hj : j < q) : ((a ++ b).drop (j * n)).take n = (a.drop (j * n)).take n := by
  have : (j + 1) * n ≤ q * n := Nat.mul_le_mul_right n (by omega)
  rw [Nat.add_mul, Nat.one_mul] at this
  rw [List.drop_append_of_le_length (by omega), List.take_append_of_le_length (by rw [List.length_drop]; omega)]
theorem chunk_last {α : Type} {a b : List α} {n q : Nat} (ha : a.length = q * n) (hb : b.length = n) : ((a ++ b).drop (q * n)).take n = b := by
  rw [← ha, List.drop_left, List.take_of_length_le (by omega)]
theorem OpensL.slice {α : Type} {L : Lay α} {n : Nat} {ok : α → Prop} (ht : P.underlying t = some (.slice e)) (hct : P.cellsOf t = 1) (hn : 0 < n) (h : OpensL P e L n ok) : OpensL P t (laySl L n) 1 (fun l => l.length < 9223372036854775808 ∧ ∀ x ∈ l, ok x) := by
  obtain ⟨hc, h⟩ := h
  refine ⟨hct, fun {Hh} enc W held fuel cs x hx k => ?_⟩
  rcases Go.Deep.open_slice ht hx with ⟨rfl, _⟩ | ⟨a, len, cap, m, fu, D, Pl, rfl, hb, hl, hm, hmm, _, hel⟩
  · exact ⟨[], [], [.slice none 0 0], rfl, rfl, fun r _ => ⟨fun p hp => by simp at hp, VL.cons .sl0 (VL.nil r)⟩, fun h _ => ⟨_, rfl, .nil⟩, by simp, by simp⟩
  have hmc : m = cap := by simpa using hmm
  subst hmc
  have hmx : m ≤ 9223372036854775807 := hm
  by_cases hlen : len = 0
  · subst hlen
    by_cases hcap : m = 0
    · subst hcap
      exact ⟨[], [], [.slice (some ⟨0, 0, none⟩) 0 1], rfl, rfl, fun r _ => ⟨fun p hp => by simp at hp, VL.cons (.sl (.inr rfl) (Nat.le_refl _) (by omega) (fun _ => rfl) (fun q => by omega)) (VL.nil r)⟩, fun h _ => ⟨_, rfl, .emp _ _⟩, by simp, by simp⟩
    ·
      obtain ⟨cs0, g0, _⟩ := hel 0 (by omega)
      have g4 := (World.cells?_some g0).2.2 0 (by rw [hc]; exact hn)
      have hl0 := (World.cells?_some g0).2.1
      obtain ⟨v0, hv0⟩ : ∃ v, cs0[0]? = some v := ⟨_, List.getElem?_eq_getElem (by rw [hl0, hc]; exact hn)⟩
      rw [hv0] at g4
      obtain ⟨hs, _⟩ := cell_heap g4
      have hspot : a.spot = none := by
        have : (a.add (0 * P.cellsOf e)).add 0 = a := by rw [Nat.zero_mul]; rfl
        rw [this] at hs; exact hs
      refine ⟨[], [(none, some ⟨a.block, a.off, 0, n⟩)], [.slice (some ⟨k, 0, none⟩) 0 (2 * m + 1)], rfl, rfl, fun r hr => ⟨fun p hp B hB => (by simp at hp; subst hp; cases hB), VL.cons (.sl (.inl ⟨rfl, _, hr 0 _ rfl, ?_⟩) (by omega) (by omega) (fun _ => by omega) (fun q => by omega)) (VL.nil r)⟩, fun h _ => ⟨_, rfl, .emp _ _⟩, by simp, by simp⟩
      obtain ⟨ab, ao, asp⟩ := a
      simp only at hspot; subst hspot; rfl
  have hq : ∀ q, q ≤ len → ∃ (l : List α) (bl : BL) (acs : List Value), l.length = q ∧ acs.length = q * n ∧ acs.all (·.oneCell') = true ∧ (∀ r, CompR r (k + 1) bl → (∀ p ∈ bl, BlkOK W r p) ∧ ∀ j, j < q → ∃ cs', W.cells? 0 (a.add (j * n)) n = some cs' ∧ VL r ((acs.drop (j * n)).take n) cs') ∧
      (∀ h, CompH h (k + 1) bl → ∀ (j : Nat) (y : α), l[j]? = some y → L h y ((acs.drop (j * n)).take n)) ∧ ∀ x ∈ l, ok x := by
    intro q
    induction q with
    | zero => intro _; exact ⟨[], [], [], rfl, by simp, rfl, fun r _ => ⟨fun p hp => by simp at hp, fun j hj => by omega⟩, fun h _ j y hj => by simp at hj, by simp⟩
    | succ q ih =>
      intro hq2
      obtain ⟨l, bl, acs, l1, l2, l3, l4, l5, l6⟩ := ih (by omega)
      obtain ⟨cs', g1, g2⟩ := hel q (by omega)
      rw [hc] at g1
      obtain ⟨y, bl2, acs2, m1, m2, m3, m4, m5⟩ := h enc W held fu cs' _ g2 (k + 1 + bl.length)
      refine ⟨l ++ [y], bl ++ bl2, acs ++ acs2, by simp [l1], by rw [List.length_append, l2, m1, Nat.add_mul, Nat.one_mul], by rw [List.all_append, l3, m2]; rfl, fun r hr => ⟨fun p hp => ?_, fun j hj => ?_⟩, fun h hh j z hj => ?_, fun z hz => ?_⟩
      · rcases List.mem_append.1 hp with hp | hp
        · exact (l4 r hr.left).1 p hp
        · exact (m3 r hr.right).1 p hp
      · by_cases hjq : j < q
        · rw [chunk_append l2 hjq]; exact (l4 r hr.left).2 j hjq
        · have : j = q := by omega
          subst this
          rw [chunk_last l2 m1]; exact ⟨cs', g1, (m3 r hr.right).2⟩
      · have hj2 := (List.getElem?_eq_some_iff.1 hj).1
        rw [List.length_append, l1] at hj2; simp at hj2
        by_cases hjq : j < q
        · rw [List.getElem?_append_left (by omega)] at hj
          rw [chunk_append l2 hjq]; exact l5 h hh.left j z hj
        · have : j = q := by omega
          subst this
          rw [List.getElem?_append_right (by omega), l1, Nat.sub_self] at hj
          simp at hj; subst hj
          rw [chunk_last l2 m1]; exact m4 h hh.right
      · rcases List.mem_append.1 hz with hz | hz
        · exact l6 z hz
        · rw [List.mem_singleton.1 hz]; exact m5
  obtain ⟨l, bl, acs, l1, l2, l3, l4, l5, l6⟩ := hq len (Nat.le_refl _)
  obtain ⟨cs0, g0, _⟩ := hel 0 (by omega)
  have g4 := (World.cells?_some g0).2.2 0 (by rw [hc]; exact hn)
  have hl0 := (World.cells?_some g0).2.1
  obtain ⟨v0, hv0⟩ : ∃ v, cs0[0]? = some v := ⟨_, List.getElem?_eq_getElem (by rw [hl0, hc]; exact hn)⟩
  rw [hv0] at g4
  obtain ⟨hs, c, el, fz, hh, hcell⟩ := cell_heap g4
  rw [(add_block _ _).1, (add_block _ _).1] at hh
  have hspot : a.spot = none := by
    have : (a.add (0 * P.cellsOf e)).add 0 = a := by rw [Nat.zero_mul]; rfl
    rw [this] at hs; exact hs
  have all : ∀ (j : Nat) (cs' : List Value), W.cells? 0 (a.add (j * n)) n = some cs' → ∀ (i : Nat) (v : Value), cs'[i]? = some v → c[a.off + (j * n + i)]? = some v := fun j cs' hy i v hv => by
    obtain ⟨_, q2, q3⟩ := World.cells?_some hy
    have hi : i < n := by have := (List.getElem?_eq_some_iff.1 hv).1; omega
    have q4 := q3 i hi
    rw [hv] at q4
    obtain ⟨_, c2, el2, fz2, hh2, hcell2⟩ := cell_heap q4
    rw [(add_block _ _).1, (add_block _ _).1, hh] at hh2
    cases hh2
    rw [(add_block _ _).2, (add_block _ _).2] at hcell2
    rw [← hcell2]; congr 1; omega
  have hsz : a.off + len * n ≤ c.size := by
    obtain ⟨csl, e1, _⟩ := hel (len - 1) (by omega)
    rw [hc] at e1
    have q2 := (World.cells?_some e1).2.1
    have hv := all (len - 1) csl e1 (n - 1) _ (List.getElem?_eq_getElem (by omega))
    have := (Array.getElem?_eq_some_iff.1 hv).1
    have e2 : (len - 1) * n + n = len * n := by
      obtain ⟨q, rfl⟩ : ∃ q, len = q + 1 := ⟨len - 1, by omega⟩
      simp only [Nat.add_sub_cancel, Nat.add_mul, Nat.one_mul]
    omega
  refine ⟨l, (some ⟨acs, n, true⟩, some ⟨a.block, a.off, len * n, n⟩) :: bl, [.slice (some ⟨k, 0, none⟩) len (2 * m + 1)], rfl, rfl, fun r hr => ?_, fun h hH => ?_, by omega, l6⟩
  · have hr0 : r k = some ⟨a.block, a.off, len * n, n⟩ := hr 0 _ rfl
    have hr1 : CompR r (k + 1) bl := fun i p hp => by rw [Nat.add_assoc, Nat.add_comm 1 i]; exact hr (i + 1) p hp
    obtain ⟨r1, r2⟩ := l4 r hr1
    refine ⟨fun p hp => ?_, VL.cons (.sl (.inl ⟨rfl, _, hr0, ?_⟩) hl (by omega) (fun _ => by omega) (fun q => by omega)) (VL.nil r)⟩
    · rcases List.mem_cons.1 hp with rfl | hp
      · intro B hB
        cases hB
        refine ⟨_, c, el, fz, rfl, hh, rfl, by show acs.length ≤ len * n; omega, hsz, rfl, fun i v hv => ⟨List.all_eq_true.1 l3 v (List.mem_of_getElem? hv), ?_⟩⟩
        have hi := (List.getElem?_eq_some_iff.1 hv).1
        have hv : acs[i]? = some v := hv
        have hi : i < acs.length := hi
        have hj : i / n < len := Nat.div_lt_of_lt_mul (by rw [Nat.mul_comm]; omega)
        have he : i = i / n * n + i % n := by rw [Nat.mul_comm]; exact (Nat.div_add_mod i n).symm
        obtain ⟨cs', s1, s2⟩ := r2 (i / n) hj
        have hk : ((acs.drop (i / n * n)).take n)[i % n]? = some v := by
          rw [List.getElem?_take, if_pos (Nat.mod_lt _ hn), List.getElem?_drop, ← he]; exact hv
        obtain ⟨v', t1, t2⟩ := s2.get hk
        refine ⟨v', ?_, t2⟩
        have := all (i / n) cs' s1 (i % n) v' t1
        rw [← he] at this; exact this
      · exact r1 p hp
    · obtain ⟨ab, ao, asp⟩ := a
      simp only at hspot; subst hspot; rfl
  · have h0 : h.get k = some ⟨acs, n, true⟩ := hH 0 _ rfl _ rfl
    have h1 : CompH h (k + 1) bl := fun i p hp B hB => by rw [Nat.add_assoc, Nat.add_comm 1 i]; exact hH (i + 1) p hp B hB
    refine ⟨_, rfl, ?_⟩
    have := SlL.row (L := L) (n := n) (h := h) k (2 * m + 1) l acs h0 (by rw [l2, l1]) (l5 h h1)
    rw [l1] at this; exact this
def OpensLF (P : Program) (fs : List (TypeId × Nat)) (o : Nat) {α : Type} (L : Lay α) (n : Nat) (ok : α → Prop) : Prop :=
  ∀ {Hh : Type} (enc : TypeId × Value → Hh) (W : World) (held : Bool) (fuel : Nat) (cs : List Value), cs.length = n →
    (∀ f ∈ fs, ∃ x, DataW.trod enc P W 0 (fun _ => true) held fuel f.1 ((cs.drop (f.2 - o)).take (P.cellsOf f.1)) = some x) → ∀ k, Given W k n L ok cs
theorem OpensLF.one {α : Type} {L : Lay α} {n : Nat} {ok : α → Prop} {o : Nat} (h : OpensL P t L n ok) : OpensLF P [(t, o)] o L n ok := by
  intro Hh enc W held fuel cs hl hf
  obtain ⟨x, hx⟩ := hf (t, o) (by simp)
  simp only [Nat.sub_self, List.drop_zero] at hx
  rw [List.take_of_length_le (by rw [h.1]; omega)] at hx
  exact h.2 enc W held fuel cs x hx
def layP {α β : Type} (L : Lay α) (M : Lay β) : Lay (α × β) := fun h x cs => ∃ c1 c2, cs = c1 ++ c2 ∧ L h x.1 c1 ∧ M h x.2 c2
theorem OpensLF.cons {α β : Type} {L : Lay α} {M : Lay β} {n m : Nat} {ok : α → Prop} {ok' : β → Prop} {o o' : Nat} {fs : List (TypeId × Nat)} (ho : o' = o + n) (hfs : ∀ f ∈ fs, o' ≤ f.2) (h : OpensL P t L n ok) (hr : OpensLF P fs o' M m ok') :
    OpensLF P ((t, o) :: fs) o (layP L M) (n + m) (fun x => ok x.1 ∧ ok' x.2) := by
  intro Hh enc W held fuel cs hl hf k
  obtain ⟨x, hx⟩ := hf (t, o) (by simp)
  simp only [Nat.sub_self, List.drop_zero] at hx
  rw [h.1] at hx
  obtain ⟨a, bl, acs, a1, a2, a3, a4, a5⟩ := h.2 enc W held fuel _ x hx k
  obtain ⟨b, bl2, acs2, b1, b2, b3, b4, b5⟩ := hr enc W held fuel (cs.drop n) (by rw [List.length_drop]; omega) (fun f hm => by
    obtain ⟨y, hy⟩ := hf f (by simp [hm])
    have := hfs f hm
    refine ⟨y, ?_⟩
    rw [List.drop_drop, show n + (f.2 - o') = f.2 - o from by omega]
    exact hy) (k + bl.length)
  refine ⟨(a, b), bl ++ bl2, acs ++ acs2, by rw [List.length_append, a1, b1], by rw [List.all_append, a2, b2]; rfl, fun r hr2 => ⟨fun p hp => ?_, ?_⟩, fun h hh => ⟨acs, acs2, rfl, a4 h hh.left, b4 h hh.right⟩, a5, b5⟩
  · rcases List.mem_append.1 hp with hp | hp
    · exact (a3 r hr2.left).1 p hp
    · exact (b3 r hr2.right).1 p hp
  · have := (a3 r hr2.left).2.append (b3 r hr2.right).2
    rwa [List.take_append_drop] at this
def fieldsOf (P : Program) (t : TypeId) : Option (List (TypeId × Nat)) :=
  match P.underlying t with
  | some (.struct fs) => some (fs.toList.map fun f => (f.type, f.offset))
  | _ => none
theorem OpensL.struct {α β : Type} {L : Lay β} {M : Lay α} {n : Nat} {ok : β → Prop} {ok' : α → Prop} {fs : List (TypeId × Nat)} (mk : β → α) (hM : ∀ h b cs, L h b cs → M h (mk b) cs) (hok : ∀ b, ok b → ok' (mk b)) (hfs : fieldsOf P t = some fs) (hc : P.cellsOf t = n) (h : OpensLF P fs 0 L n ok) : OpensL P t M n ok' := by
  refine ⟨hc, fun {Hh} enc W held fuel cs x hx k => ?_⟩
  unfold fieldsOf at hfs
  cases hu : P.underlying t with
  | none => rw [hu] at hfs; cases hfs
  | some u =>
    rw [hu] at hfs
    cases u with
    | struct fa =>
      simp only [Option.some.injEq] at hfs
      obtain ⟨xs, m, _, _, hl, hlen, hget⟩ := DataW.trod_struct hu hx
      obtain ⟨a, bl, acs, a1, a2, a3, a4, a5⟩ := h enc W held m cs (by rw [hl, hc]) (fun g hg => by
        rw [← hfs] at hg
        obtain ⟨fl, hfl, rfl⟩ := List.mem_map.1 hg
        obtain ⟨i, hi, hgi⟩ := List.mem_iff_getElem.1 hfl
        have hia : i < fa.size := by simpa using hi
        have h1 : fa[i]? = some fl := by
          rw [Array.getElem?_eq_getElem hia]
          simpa using hgi
        have h2 := hget i fl h1
        have hix : i < xs.length := by omega
        rw [List.getElem?_eq_getElem hix] at h2
        exact ⟨xs[i], by simpa using h2⟩) k
      exact ⟨mk a, bl, acs, a1, a2, a3, fun h hh => hM h a acs (a4 h hh), hok a a5⟩
    | _ => cases hfs
theorem OpensL.array {α β : Type} {L : Lay β} {M : Lay α} {n q : Nat} {ok : β → Prop} {ok' : α → Prop} {fs : List (TypeId × Nat)} (mk : β → α) (hM : ∀ h b cs, L h b cs → M h (mk b) cs) (hok : ∀ b, ok b → ok' (mk b)) (ht : P.underlying t = some (.array q e)) (hfs : (List.range q).map (fun i => (e, i * P.cellsOf e)) = fs) (hc : P.cellsOf t = n) (h : OpensLF P fs 0 L n ok) : OpensL P t M n ok' := by
  refine ⟨hc, fun {Hh} enc W held fuel cs x hx k => ?_⟩
  obtain ⟨xs, m, _, _, hl, hlen, hget⟩ := DataW.trod_array ht hx
  obtain ⟨a, bl, acs, a1, a2, a3, a4, a5⟩ := h enc W held m cs (by rw [hl, hc]) (fun g hg => by
    rw [← hfs] at hg
    obtain ⟨i, hi, rfl⟩ := List.mem_map.1 hg
    have hi' : i < q := by simpa using hi
    have h2 := hget i hi'
    rw [List.getElem?_eq_getElem (show i < xs.length by omega)] at h2
    exact ⟨_, by simpa using h2⟩) k
  exact ⟨mk a, bl, acs, a1, a2, a3, fun h hh => hM h a acs (a4 h hh), hok a a5⟩
end
theorem SlL.sl {α : Type} {K : Row α} {h : H} {V : Value} {l : List α} (A : SlL (fun _ y cs => cs = K.cells y) K.n h V l) : K.Sl h V l := by
  cases A with
  | nil => exact .nil
  | emp a c => exact .emp a c
  | row b c l cells hg hl he =>
    have e : cells = K.flat l := by
      apply List.ext_getElem?
      intro i
      by_cases hi : i < cells.length
      · have hj : i / K.n < l.length := Nat.div_lt_of_lt_mul (by rw [Nat.mul_comm]; omega)
        have hi2 : i = i / K.n * K.n + i % K.n := by rw [Nat.mul_comm]; exact (Nat.div_add_mod i K.n).symm
        have h1 := he (i / K.n) _ (List.getElem?_eq_getElem hj)
        have h2 := K.flat_get l (i / K.n) _ (List.getElem?_eq_getElem hj)
        have h3 := congrArg (fun z : List Value => z[i % K.n]?) (h1.trans h2.symm)
        simp only [List.getElem?_take, if_pos (Nat.mod_lt i K.pos), List.getElem?_drop] at h3
        rw [← hi2] at h3; exact h3
      · rw [List.getElem?_eq_none (by omega), List.getElem?_eq_none (by rw [K.flat_length]; omega)]
    subst e
    exact .own hg
theorem rel_bl {W : World} {bl : BL} (hb : ∀ p ∈ bl, BlkOK W (rhoL (bl.map Prod.snd)) p) : Rel W.heap.size (rhoL (bl.map Prod.snd)) (args (bl.map Prod.fst)) W := by
  have pick : ∀ k B, (args (bl.map Prod.fst)).get k = some B → ∃ p, bl[k]? = some p ∧ p.1 = some B := fun k B e => by
    rw [args_get, List.getElem?_map] at e
    cases ho : bl[k]? with
    | none => rw [ho] at e; cases e
    | some p => rw [ho] at e; exact ⟨p, rfl, by simpa using e⟩
  have loc : ∀ k p, bl[k]? = some p → rhoL (bl.map Prod.snd) k = p.2 := fun k p e => by simp [rhoL, List.getElem?_map, e]
  refine ⟨fun k B e => ?_, fun n m Bn Bm L M e1 e2 hne hro => ?_, fun n hn => ?_, Nat.le_refl _, fun n B L e hro hL => ?_⟩
  · obtain ⟨p, h1, h2⟩ := pick k B e
    obtain ⟨L, c, el, fz, g1, g2, g3, g4, g5, g6, g7⟩ := hb p (List.mem_of_getElem? h1) B h2
    exact ⟨L, c, el, fz, by rw [loc k p h1, g1], g2, g3, g4, g5, fun q => by (rw [g6] at q; cases q), g7⟩
  · obtain ⟨p, h1, h2⟩ := pick n Bn e1
    obtain ⟨_, _, _, _, _, _, _, _, _, g6, _⟩ := hb p (List.mem_of_getElem? h1) Bn h2
    rw [g6] at hro; cases hro
  · rw [args_next, List.length_map] at hn
    simp [rhoL, List.getElem?_eq_none (show bl.length ≤ n by omega)]
  · obtain ⟨p, h1, h2⟩ := pick n B e
    obtain ⟨L', c, el, fz, g1, g2, _⟩ := hb p (List.mem_of_getElem? h1) B h2
    rw [loc n p h1, g1] at hL; cases hL
    exact (Array.getElem?_eq_some_iff.1 g2).1
theorem compR_rho (bl : BL) : CompR (rhoL (bl.map Prod.snd)) 0 bl := fun i p hp => by simp [rhoL, List.getElem?_map, hp]
theorem compH_args (bl : BL) : CompH (args (bl.map Prod.fst)) 0 bl := fun i p hp B hB => by
  rw [args_get, List.getElem?_map, Nat.zero_add, hp]; simp [hB]
theorem wf_args (bl : BL) : Mem (args (bl.map Prod.fst)) (args (bl.map Prod.fst)) [] [] := Mem.start fun n B e => by
  rw [args_get] at e; rw [args_next]
  rcases Nat.lt_or_ge n (bl.map Prod.fst).length with q | q
  · exact q
  · rw [List.getElem?_eq_none q] at e; cases e
def GivenA (W : World) (k : Nat) (us us' : List Value) (bl : BL) : Prop := ∀ r, CompR r k bl → (∀ p ∈ bl, BlkOK W r p) ∧ VL r us us'
theorem GivenA.nil {W : World} {k : Nat} : GivenA W k [] [] [] := fun r _ => ⟨fun p hp => by simp at hp, VL.nil r⟩
theorem GivenA.cons {W : World} {k : Nat} {u u' : Value} {us us' : List Value} {bl bl2 : BL} (h1 : ∀ r, CompR r k bl → (∀ p ∈ bl, BlkOK W r p) ∧ VR r u u') (h2 : GivenA W (k + bl.length) us us' bl2) : GivenA W k (u :: us) (u' :: us') (bl ++ bl2) := fun r hr =>
  ⟨fun p hp => (List.mem_append.1 hp).elim ((h1 r hr.left).1 p) ((h2 r hr.right).1 p), VL.cons (h1 r hr.left).2 (h2 r hr.right).2⟩
theorem given_agg {W : World} {k : Nat} {bl : BL} {acs : List Value} {C : Array Value} (h : ∀ r, CompR r k bl → (∀ p ∈ bl, BlkOK W r p) ∧ VL r acs (Value.agg C).cells.toList) : ∀ r, CompR r k bl → (∀ p ∈ bl, BlkOK W r p) ∧ VR r (.agg acs.toArray) (.agg C) := fun r hr => by
  obtain ⟨h1, h2⟩ := h r hr
  have h2 : VL r acs C.toList := h2
  have := VR.ofAgg h2
  rw [Array.toArray_toList] at this
  exact ⟨h1, this⟩
theorem law_calls {P : Program} {tab : Nat → Option FD} (hD : DrawOK P) (hT : TabOK P tab) {f : Nat} {W : World} {bl : BL} {us us' : List Value} (hb : ∀ r, CompR r 0 bl → (∀ p ∈ bl, BlkOK W r p) ∧ VL r us us')
    (hw : Cll tab f us (args (bl.map Prod.fst)) (fun v _ => v = .bool true)) : Calls P f us'.toArray W fun e W' => e = .returned (.bool true) ∧ Go.RowKit.Below W.heap.size W W' := by
  obtain ⟨v, h2, ⟨n, hr⟩, rfl⟩ := hw
  obtain ⟨b1, b2⟩ := hb _ (compR_rho bl)
  have R := rel_bl b1
  refine (run_table hD hT n f W.heap.size _ _ W us us' _ _ hr b2 R).2.mono fun e W' he => ?_
  obtain ⟨r2, v', rfl, hv, _, F, _⟩ := he
  cases hv
  exact ⟨rfl, F.below R⟩
end Go.Proofs.Yteikngjiaboeaaa.Am
namespace Go.Proofs.Yteikngjiaboeaaa.Wt
open Go Go.Proofs.Yteikngjiaboeaaa.Am Go.Proofs.Yteikngjiaboeaaa.IrAll
set_option linter.unusedVariables false
set_option linter.unusedSimpArgs false
structure Rrow where
  ky : List UInt8
  va : List UInt8
  vn : UInt64
  deriving DecidableEq
def Rrow.cells (x : Rrow) : List Value := [(.string (bs x.ky)), (.string (bs x.va)), (.int .u64 (((x.vn).toNat : Nat) : Int))]
def KRrow : Row Rrow := ⟨Rrow.cells, 3, fun _ => rfl, by decide, fun _ => rfl⟩
theorem Rrow_eqV (x y : Rrow) : eqV (.agg [(0, 2), (1, 2), (2, 1)]) (.agg (Rrow.cells x).toArray) (.agg (Rrow.cells y).toArray) = some (decide (x = y)) := by
  have e : eqV (.agg [(0, 2), (1, 2), (2, 1)]) (.agg (Rrow.cells x).toArray) (.agg (Rrow.cells y).toArray) = some ((((bs x.ky).toList == (bs y.ky).toList) && (((bs x.va).toList == (bs y.va).toList) && ((((x.vn.toNat : Nat) : Int) == ((y.vn.toNat : Nat) : Int)) && true)))) := rfl
  rw [e]; congr 1
  rw [Bool.eq_iff_iff]
  simp only [Bool.and_eq_true, beq_iff_eq, bs_toList, decide_eq_true_eq, Bool.and_true, and_true]
  constructor
  · intro h
    obtain ⟨h0, h1, h2⟩ := h
    obtain ⟨⟩ := x; obtain ⟨⟩ := y
    simp only at *
    rw [h0, h1, u64_inj (Int.ofNat.inj h2)]
  · intro h; subst h; exact ⟨rfl, rfl, rfl⟩
structure Res where
  cd : UInt8
  n : UInt64
  va : List UInt8
  rs : List Rrow
  deriving DecidableEq
def Res.cells (r : Res) (V : Value) : List Value := [(.int .u8 (((r.cd).toNat : Nat) : Int)), (.int .u64 (((r.n).toNat : Nat) : Int)), (.string (bs r.va)), V]
def Res.val (r : Res) (V : Value) : Value := .agg (r.cells V).toArray
variable {h base : H} {L : List Seg} {R : List Nat}
def FitR (rs : List Rrow) : Prop := ∀ p ∈ rs, p.ky.length ≤ 300000 ∧ p.va.length ≤ 300000
def FitRes (r : Res) : Prop := r.va.length ≤ 300000 ∧ r.rs.length ≤ 300000 ∧ FitR r.rs
def TightR (r : Res) : Prop := r.va.length ≤ 3000 ∧ r.rs.length ≤ 40 ∧ ∀ p ∈ r.rs, p.ky.length ≤ 3000 ∧ p.va.length ≤ 3000
theorem TightR.fit {r : Res} (h : TightR r) : FitRes r := by
  obtain ⟨h1, h2, h3⟩ := h
  exact ⟨by omega, by omega, fun p hp => by have := h3 p hp; omega⟩
theorem TightR_snoc {es : List Rrow} {i : Nat} {y : Rrow} (h : ∀ p ∈ es.take i, p.ky.length ≤ 3000 ∧ p.va.length ≤ 3000) (hy : es[i]? = some y) (hr : y.ky.length ≤ 3000 ∧ y.va.length ≤ 3000) : ∀ p ∈ es.take (i + 1), p.ky.length ≤ 3000 ∧ p.va.length ≤ 3000 := by
  intro e he
  rw [List.take_add_one, hy] at he
  simp only [Option.toList_some, List.mem_append, List.mem_singleton] at he
  rcases he with he | he
  · exact h e he
  · subst he; exact hr
theorem GreatR_ran (W : Mem h h [] []) {r : Res} {V : Value} (A : KRrow.Sl h V r.rs) (hl : r.va.length < 9223372036854775808 ∧ r.rs.length < 9223372036854775808 ∧ ∀ p ∈ r.rs, p.ky.length < 9223372036854775808 ∧ p.va.length < 9223372036854775808) : Cll tab0 17 [r.val V] h (fun v h2 => (∃ g, v = .bool g ∧ (g = false → FitRes r ∧ TightR r)) ∧ Mem h h2 [] []) := by
  obtain ⟨P, n, rfl⟩ := A.shape
  obtain ⟨l1, l2, l3⟩ := hl
  refine Cll.code rfl rfl ?_
  refine WC.env [(0, _)] rfl ?_
  refine WC.seq ?_
  refine WC.run ?_
  refine WS.box W [_, _, _, _] rfl rfl rfl rfl ?_
  intro p1 h2 M3
  refine WS.op rfl rfl (WS.nil [(1, _)] rfl ?_)
  refine WC.seq ?_
  refine WC.seq ?_
  obtain ⟨L4, eL6, M5⟩ := Mem.name M3.bare
  refine WC.joinB (base := h) (fun b => [(1, (.pointer (some ⟨p1, 0, none⟩))), (13, .bool b)]) L4 (True) (r.va.length ≤ 3000 ∧ r.rs.length ≤ 40) ?_ ?_ ?_
  ·subst eL6
   refine WS.op rfl rfl (WS.op rfl (op_ld (M5.at 0 rfl) rfl rfl) (WS.op rfl (op_lenS (l := r.va) rfl) ?_))
   refine WS.gtrN (a := (r.va).length) (b := 3000) rfl rfl rfl (fun e7 => ?_) (fun e7 => ?_)
   ·
    refine WS.op rfl rfl (WS.off rfl (WS.off rfl (WS.off rfl (WS.off rfl (WS.op rfl rfl ?_)))))
    refine WS.nil' ⟨true, rfl, ((M5.bare.focus 0 rfl).take 1), fun _ => ?_, fun hh => ?_⟩
    · trivial
    · cases hh
   ·
    refine WS.op rfl rfl (WS.op rfl rfl (WS.op rfl (op_ld (M5.at 0 rfl) rfl rfl) (WS.op rfl (op_lenVS A rfl) ?_)))
    refine WS.gtrN (a := (r.rs).length) (b := 40) rfl rfl rfl (fun e12 => ?_) (fun e12 => ?_)
    ·
     refine WS.op rfl rfl ?_
     refine WS.nil' ⟨true, rfl, ((M5.bare.focus 0 rfl).take 1), fun _ => ?_, fun hh => ?_⟩
     · trivial
     · cases hh
    ·
     refine WS.op rfl rfl ?_
     refine WS.nil' ⟨false, rfl, ((M5.bare.focus 0 rfl).take 1), fun hh => ?_, fun _ => ?_⟩
     · cases hh
     · omega
  ·intro h7 M8 hp13
   subst eL6
   refine WC.condT rfl ?_
   refine WC.seq ?_
   refine WC.run ?_
   refine WS.op rfl rfl (WS.nil [(2, _)] rfl ?_)
   refine WC.ret ?_
   refine ⟨[_], (res_tmp rfl res_nil), ?_⟩
   exact ⟨⟨true, rfl, fun q => by cases q⟩, M8.bare.take 0⟩
  ·intro h9 M10 hp13
   subst eL6
   refine WC.condF rfl ?_
   refine WC.skip ?_
   refine WC.seq ?_
   refine WC.seq ?_
   refine WC.run ?_
   refine WS.op rfl rfl (WS.nil [(1, _), (3, _)] rfl ?_)
   refine WC.block ?_
   obtain ⟨L11, eL13, M12⟩ := Mem.name M10.bare
   refine WC.loop (σ := Nat) (fun (i) => [(1, (.pointer (some ⟨p1, 0, none⟩))), (3, (.int .i64 ((i : Nat) : Int)))]) (fun (i) hh => Mem h hh (L11) [] ∧ (∀ p ∈ r.rs.take i, p.ky.length ≤ 3000 ∧ p.va.length ≤ 3000) ∧ i ≤ r.rs.length) (fun (i) => r.rs.length - i) (0) rfl ⟨M12, ?_⟩ ?_
   · exact ⟨by intro x hx; simp at hx, by omega⟩
   ·rintro i h14 ⟨M15, ⟨hO, hi1⟩⟩
    subst eL13
    refine WC.env [(1, _), (3, _)] rfl ?_
    refine WC.seq ?_
    refine WC.seq ?_
    refine WC.run ?_
    refine WS.op rfl rfl (WS.op rfl rfl (WS.op rfl (op_ld (M15.at 0 rfl) rfl rfl) (WS.op rfl (op_lenVS A rfl) ?_)))
    refine WS.lssN (a := i) (b := (r.rs).length) rfl rfl rfl (fun e18 => ?_) (fun e18 => ?_)
    ·
     refine WS.nil [(1, _), (3, _), (18, _)] rfl ?_
     refine WC.condT rfl ?_
     refine WC.skip ?_
     refine WC.seq ?_
     refine WC.block ?_
     refine WC.seq ?_
     refine WC.run ?_
     refine WS.op rfl rfl (WS.op rfl (op_ld (M15.at 0 rfl) rfl rfl) (WS.op rfl rfl ?_))
     obtain ⟨y24, hy24⟩ : ∃ y, (r.rs)[i]? = some y := ⟨_, List.getElem?_eq_getElem (show i < (r.rs).length by first | omega | (simp only [List.length_drop, List.length_take, List.length_append, List.length_cons, List.length_nil, List.length_singleton]; omega) | (simp only [List.length_drop, List.length_take, List.length_append, List.length_cons, List.length_nil, List.length_singleton] at *; omega))⟩
     refine WS.iaVS A i hy24 rfl rfl rfl rfl ?_
     intro b24_ o24_ ha24
     refine WS.op rfl rfl (WS.op rfl (op_ldH rfl (At.ld0 (ha24.mono M15.sub) rfl)) (WS.op rfl (op_lenS (l := y24.ky) rfl) ?_))
     refine WS.gtrN (a := (y24.ky).length) (b := 3000) rfl rfl rfl (fun e28 => ?_) (fun e28 => ?_)
     ·
      refine WS.op rfl rfl (WS.off rfl (WS.off rfl (WS.off rfl (WS.off rfl (WS.off rfl (WS.off rfl (WS.off rfl (WS.off rfl (WS.op rfl rfl ?_)))))))))
      refine WS.nil [(1, _), (3, _), (38, _)] rfl ?_
      refine WC.condT rfl ?_
      refine WC.seq ?_
      refine WC.run ?_
      refine WS.op rfl rfl (WS.nil [(2, _)] rfl ?_)
      refine WC.ret ?_
      refine ⟨[_], (res_tmp rfl res_nil), ?_⟩
      exact ⟨⟨true, rfl, fun q => by cases q⟩, M15.bare.take 0⟩
     ·
      refine WS.op rfl rfl (WS.op rfl rfl (WS.op rfl (op_ld (M15.at 0 rfl) rfl rfl) (WS.op rfl rfl ?_)))
      refine WS.iaVS A i hy24 rfl rfl rfl rfl ?_
      intro b33_ o33_ ha33
      refine WS.op rfl rfl (WS.op rfl (op_ldH rfl (At.ld (ha33.mono M15.sub) rfl)) (WS.op rfl (op_lenS (l := y24.va) rfl) ?_))
      refine WS.gtrN (a := (y24.va).length) (b := 3000) rfl rfl rfl (fun e37 => ?_) (fun e37 => ?_)
      ·
       refine WS.op rfl rfl (WS.nil [(1, _), (3, _), (38, _)] rfl ?_)
       refine WC.condT rfl ?_
       refine WC.seq ?_
       refine WC.run ?_
       refine WS.op rfl rfl (WS.nil [(2, _)] rfl ?_)
       refine WC.ret ?_
       refine ⟨[_], (res_tmp rfl res_nil), ?_⟩
       exact ⟨⟨true, rfl, fun q => by cases q⟩, M15.bare.take 0⟩
      ·
       refine WS.op rfl rfl (WS.nil [(1, _), (3, _), (38, _)] rfl ?_)
       refine WC.condF rfl ?_
       refine WC.skip ?_
       refine WC.run ?_
       refine WS.op rfl rfl (WS.opV (.int .i64 (((i + 1) : Nat) : Int)) rfl rfl (add_i64 (a := i) (b := 1) (by omega)) (WS.op rfl rfl (WS.nil [(1, _), (3, _)] rfl ?_)))
       refine ⟨i + 1, rfl, ⟨((M15.bare.focus 0 rfl).take 1), ?_⟩, ?_⟩
       · exact ⟨TightR_snoc hO hy24 ⟨by omega, by omega⟩, by omega⟩
       · simp only []; omega
    ·
     refine WS.nil [(1, _), (3, _), (18, _)] rfl ?_
     refine WC.condF rfl ?_
     refine WC.exit ?_
     refine WC.seq ?_
     refine WC.run ?_
     refine WS.op rfl rfl (WS.nil [(2, _)] rfl ?_)
     refine WC.ret ?_
     refine ⟨[_], (res_tmp rfl res_nil), ?_⟩
     rw [List.take_of_length_le (by omega)] at hO
     exact ⟨⟨false, rfl, fun _ => have ht : TightR r := ⟨hp13.1, hp13.2, hO⟩; ⟨ht.fit, ht⟩⟩, M15.bare.take 0⟩
def rowR (x : Rrow) : List UInt8 := (sb x.ky ++ sb x.va) ++ vb x.vn.toNat
def headR (r : Res) : List UInt8 := (([r.cd] ++ vb r.n.toNat) ++ sb r.va) ++ vb r.rs.length
def encR (r : Res) : List UInt8 := headR r ++ r.rs.flatMap rowR
theorem n64 {n : Nat} (h : n < 18446744073709551616) : (UInt64.ofNat n).toNat = n := by simp [UInt64.toNat_ofNat']; omega
theorem cvLen {n : Nat} (h : n < 18446744073709551616) : Value.int .u64 (IntKind.u64.wrap (n : Int)) = .int .u64 (((UInt64.ofNat n).toNat : Nat) : Int) := by rw [n64 h]; exact cv_u64 h
theorem walkRowW_ran {w p o : Nat} {l : List UInt8} {x : Rrow} {V : Value} {S : Seg} (ha : At base p o (Rrow.cells x)) (O : KU8.Own V l S) (M : Mem base h (S :: [(w, ⟨[V], 0, false⟩)] :: L) []) (hl : l.length ≤ 500000000000 ∧ x.ky.length ≤ 300000 ∧ x.va.length ≤ 300000) : Cll tab0 57 [.iface 85 (.pointer (some ⟨w, 0, none⟩)), .pointer (some ⟨p, o, none⟩)] h (fun v h2 => ∃ V2 S2, KU8.Own V2 (l ++ rowR x) S2 ∧ v = .tuple #[] ∧ Mem base h2 (S2 :: [(w, ⟨[V2], 0, false⟩)] :: L) []) := by
  obtain ⟨P, rfl⟩ := O.shape
  obtain ⟨l1, l2, l3⟩ := hl
  have s1 := sb_len3 l2
  have s2 := sb_len3 l3
  have s3 := vb_len x.vn.toNat_lt
  refine Cll.code rfl rfl ?_
  refine WC.env [(0, _), (1, _)] rfl ?_
  refine WC.seq ?_
  refine WC.draw M [] rfl ?_
  intro rb1 h2 M3
  refine WS.op rfl rfl (WS.op rfl rfl (WS.op rfl rfl (WS.op rfl rfl (WS.op rfl rfl (WS.op rfl rfl (WS.op rfl rfl ?_))))))
  refine WS.call rfl rfl rfl (w_text_ran (c := x.ky) O ((M3.focus 1 rfl).focus 1 rfl) (At.sees ha (k := 0) rfl) (by first | omega | (simp only [List.length_append, List.length_cons, List.length_nil]; omega))) ?_
  rintro _ h4 ⟨V6, S7, O8, rfl, M5⟩
  obtain ⟨P9, rfl⟩ := O8.shape
  replace M5 : Mem _ _ (S7 :: [(w, _)] :: L) _ := M5
  refine WS.nil [(0, _), (1, _)] rfl ?_
  refine WC.seq ?_
  refine WC.draw M5.bare [] rfl ?_
  intro rb10 h11 M12
  refine WS.op rfl rfl (WS.op rfl rfl (WS.op rfl rfl (WS.op rfl rfl (WS.op rfl rfl (WS.op rfl rfl (WS.op rfl rfl ?_))))))
  refine WS.call rfl rfl rfl (w_text_ran (c := x.va) O8 ((M12.focus 1 rfl).focus 1 rfl) (At.sees ha (k := 1) rfl) (by first | omega | (simp only [List.length_append, List.length_cons, List.length_nil]; omega))) ?_
  rintro _ h13 ⟨V15, S16, O17, rfl, M14⟩
  obtain ⟨P18, rfl⟩ := O17.shape
  replace M14 : Mem _ _ (S16 :: [(w, _)] :: L) _ := M14
  refine WS.nil [(0, _), (1, _)] rfl ?_
  refine WC.draw M14.bare [] rfl ?_
  intro rb19 h20 M21
  refine WS.op rfl rfl (WS.op rfl rfl (WS.op rfl rfl (WS.op rfl rfl (WS.op rfl rfl (WS.op rfl rfl (WS.op rfl rfl ?_))))))
  refine WS.call rfl rfl rfl (w_number_ran (c := x.vn) O17 ((M21.focus 1 rfl).focus 1 rfl) (At.sees ha (k := 2) rfl) (by first | omega | (simp only [List.length_append, List.length_cons, List.length_nil]; omega))) ?_
  rintro _ h22 ⟨V24, S25, O26, rfl, M23⟩
  obtain ⟨P27, rfl⟩ := O26.shape
  replace M23 : Mem _ _ (S25 :: [(w, _)] :: L) _ := M23
  refine WS.nil [] rfl ?_
  refine ⟨[], res_nil, ?_⟩
  exact ⟨_, _, by rw [show l ++ rowR x = (((l ++ (sb x.ky)) ++ (sb x.va)) ++ (vb x.vn.toNat)) by simp [rowR]]; exact O26, rfl, (M23.bare)⟩
theorem walkResW_ran {w p : Nat} {l : List UInt8} {r : Res} {V Vp : Value} {S : Seg} (A : KRrow.Sl base Vp r.rs) (hf : FitRes r) (O : KU8.Own V l S) (M : Mem base h (S :: [(w, ⟨[V], 0, false⟩)] :: [(p, ⟨r.cells Vp, 0, false⟩)] :: L) []) (hl : l.length ≤ 100000) : Cll tab0 56 [.iface 85 (.pointer (some ⟨w, 0, none⟩)), .pointer (some ⟨p, 0, none⟩)] h (fun v h2 => ∃ V2 S2, KU8.Own V2 (l ++ headR r) S2 ∧ v = .int .u64 (((UInt64.ofNat r.rs.length).toNat : Nat) : Int) ∧ Mem base h2 (S2 :: [(w, ⟨[V2], 0, false⟩)] :: [(p, ⟨r.cells Vp, 0, false⟩)] :: L) []) := by
  obtain ⟨P, rfl⟩ := O.shape
  obtain ⟨Pp, n, rfl⟩ := A.shape
  obtain ⟨f1, f2, f3⟩ := hf
  have s1 := sb_len3 f1
  have s2 := vb_len r.n.toNat_lt
  have s3 := vb_len (UInt64.ofNat r.rs.length).toNat_lt
  have hn := n64 (n := r.rs.length) (by omega)
  refine Cll.code rfl rfl ?_
  refine WC.env [(0, _), (1, _)] rfl ?_
  refine WC.seq ?_
  refine WC.run ?_
  refine WS.op rfl rfl (WS.nil [(0, _), (1, _)] rfl ?_)
  refine WC.seq ?_
  refine WC.run ?_
  refine WS.op rfl rfl (WS.op rfl rfl (WS.op rfl rfl (WS.op rfl (op_ld (M.at 2 rfl) rfl rfl) (WS.op rfl (op_lenVS A rfl) (WS.opV (.int .u64 (((UInt64.ofNat r.rs.length).toNat : Nat) : Int)) rfl rfl (cvLen (by omega)) ?_)))))
  refine WS.new M rfl ?_
  intro p1 h2 M3
  refine WS.st1 (M3.focus 0 rfl) [_] [_] rfl rfl rfl rfl rfl (Nat.le_of_ble_eq_true rfl) (Nat.le_of_ble_eq_true rfl) rfl rfl ?_
  intro h4 M5
  replace M5 : Mem _ _ ([(p1, _)] :: S :: [(w, _)] :: [(p, _)] :: L) _ := M5
  refine WS.nil [(0, _), (1, _), (5, _)] rfl ?_
  refine WC.seq ?_
  refine WC.draw M5 [] rfl ?_
  intro rb6 h7 M8
  refine WS.op rfl rfl (WS.op rfl rfl (WS.op rfl rfl (WS.op rfl rfl (WS.op rfl rfl (WS.op rfl rfl (WS.op rfl rfl ?_))))))
  refine WS.call rfl rfl rfl (w_byte_ran (c := r.cd) O ((M8.focus 2 rfl).focus 2 rfl) ⟨_, .inr (List.Mem.tail _ (List.Mem.head _)), rfl⟩ (by first | omega | (simp only [List.length_append, List.length_cons, List.length_nil]; omega))) ?_
  rintro _ h9 ⟨V11, S12, O13, rfl, M10⟩
  obtain ⟨P14, rfl⟩ := O13.shape
  replace M10 : Mem _ _ (S12 :: [(w, _)] :: [(p1, _)] :: [(p, _)] :: L) _ := M10
  refine WS.nil [(0, _), (1, _), (5, _)] rfl ?_
  refine WC.seq ?_
  refine WC.draw M10.bare [] rfl ?_
  intro rb15 h16 M17
  refine WS.op rfl rfl (WS.op rfl rfl (WS.op rfl rfl (WS.op rfl rfl (WS.op rfl rfl (WS.op rfl rfl (WS.op rfl rfl ?_))))))
  refine WS.call rfl rfl rfl (w_number_ran (c := r.n) O13 ((M17.focus 1 rfl).focus 1 rfl) ⟨_, .inr (List.Mem.tail _ (List.Mem.head _)), rfl⟩ (by first | omega | (simp only [List.length_append, List.length_cons, List.length_nil]; omega))) ?_
  rintro _ h18 ⟨V20, S21, O22, rfl, M19⟩
  obtain ⟨P23, rfl⟩ := O22.shape
  replace M19 : Mem _ _ (S21 :: [(w, _)] :: [(p1, _)] :: [(p, _)] :: L) _ := M19
  refine WS.nil [(0, _), (1, _), (5, _)] rfl ?_
  refine WC.seq ?_
  refine WC.draw M19.bare [] rfl ?_
  intro rb24 h25 M26
  refine WS.op rfl rfl (WS.op rfl rfl (WS.op rfl rfl (WS.op rfl rfl (WS.op rfl rfl (WS.op rfl rfl (WS.op rfl rfl ?_))))))
  refine WS.call rfl rfl rfl (w_text_ran (c := r.va) O22 ((M26.focus 1 rfl).focus 1 rfl) ⟨_, .inr (List.Mem.tail _ (List.Mem.head _)), rfl⟩ (by first | omega | (simp only [List.length_append, List.length_cons, List.length_nil]; omega))) ?_
  rintro _ h27 ⟨V29, S30, O31, rfl, M28⟩
  obtain ⟨P32, rfl⟩ := O31.shape
  replace M28 : Mem _ _ (S30 :: [(w, _)] :: [(p1, _)] :: [(p, _)] :: L) _ := M28
  refine WS.nil [(0, _), (5, _)] rfl ?_
  refine WC.seq ?_
  refine WC.run ?_
  refine WS.op rfl rfl ?_
  refine WS.call rfl rfl rfl (w_number_ran (c := (UInt64.ofNat r.rs.length)) O31 ((M28.bare.focus 1 rfl).focus 1 rfl) ⟨_, .inr (List.Mem.head _), rfl⟩ (by first | omega | (simp only [List.length_append, List.length_cons, List.length_nil]; omega))) ?_
  rintro _ h33 ⟨V35, S36, O37, rfl, M34⟩
  obtain ⟨P38, rfl⟩ := O37.shape
  replace M34 : Mem _ _ (S36 :: [(w, _)] :: [(p1, _)] :: [(p, _)] :: L) _ := M34
  refine WS.nil [(5, _)] rfl ?_
  refine WC.seq ?_
  refine WC.run ?_
  refine WS.op rfl (op_ld (M34.at 2 rfl) rfl rfl) (WS.op rfl rfl (WS.nil [(4, _)] rfl ?_))
  refine WC.ret ?_
  refine ⟨[_], (res_tmp rfl res_nil), ?_⟩
  exact ⟨_, _, by rw [show l ++ headR r = ((((l ++ [r.cd]) ++ (vb r.n.toNat)) ++ (sb r.va)) ++ (vb (UInt64.ofNat r.rs.length).toNat)) by unfold headR; rw [hn]; simp]; exact O37, rfl, (M34.focus 2 rfl).drop⟩
theorem WriteR_ran (W : Mem h h [] []) {r : Res} {V : Value} (A : KRrow.Sl h V r.rs) (hf : FitRes r) : Cll tab0 30 [r.val V] h (fun v h2 => v = .string (bs (encR r)) ∧ Mem h h2 [] []) := by
  obtain ⟨P, n, rfl⟩ := A.shape
  obtain ⟨f1, f2, f3⟩ := id hf
  have s1 := sb_len3 f1
  have s2 := vb_len r.n.toNat_lt
  have s3 := vb_len (n := r.rs.length) (by omega)
  have hh : (headR r).length ≤ 301000 := by unfold headR; simp only [List.length_append, List.length_cons, List.length_nil]; omega
  refine Cll.code rfl rfl ?_
  refine WC.env [(0, _)] rfl ?_
  refine WC.seq ?_
  refine WC.run ?_
  refine WS.box W [_, _, _, _] rfl rfl rfl rfl ?_
  intro p1 h2 M3
  refine WS.op rfl rfl (WS.nil [(1, _)] rfl ?_)
  refine WC.seq ?_
  refine WC.run ?_
  refine WS.opV (.agg #[(.slice none 0 0)]) rfl rfl rfl ?_
  refine WS.box M3 [_] rfl rfl rfl rfl ?_
  intro p4 h5 M6
  refine WS.op rfl rfl (WS.nil [(1, _), (3, _)] rfl ?_)
  refine WC.seq ?_
  refine WC.run ?_
  refine WS.op rfl rfl (WS.op rfl rfl ?_)
  refine WS.call rfl rfl rfl (walkResW_ran (r := r) A (by assumption) (Row.Own.nil (K := KU8)) ((M6.focus 1 rfl).focus 1 rfl).nils (by simp)) ?_
  rintro _ h7 ⟨V9, S10, O11, rfl, M8⟩
  rw [List.nil_append] at O11
  obtain ⟨P12, rfl⟩ := O11.shape
  replace M8 : Mem _ _ (S10 :: [(p4, _)] :: [(p1, _)] :: []) _ := M8
  refine WS.nil [(1, _), (3, _)] rfl ?_
  refine WC.seq ?_
  refine WC.seq ?_
  refine WC.run ?_
  refine WS.op rfl rfl (WS.op rfl (op_ld (M8.at 2 rfl) rfl rfl) (WS.op rfl (op_lenVS A rfl) (WS.op rfl rfl (WS.nil [(1, _), (3, _), (12, _), (13, _)] rfl ?_))))
  refine WC.block ?_
  obtain ⟨L13, eL15, M14⟩ := Mem.name2 ((M8.bare.focus 1 rfl).focus 1 rfl)
  refine WC.loop (σ := Value × Seg × List UInt8 × Nat) (fun ((V_, S_, out, i)) => [(1, (.pointer (some ⟨p1, 0, none⟩))), (3, (.pointer (some ⟨p4, 0, none⟩))), (12, (.int .i64 (((r.rs).length : Nat) : Int))), (13, (.int .i64 ((i : Nat) : Int)))]) (fun ((V_, S_, out, i)) hh => Mem h hh (S_ :: [(p4, ⟨[V_], 0, false⟩)] :: L13) [] ∧ KU8.Own V_ out S_ ∧ out = headR r ++ (r.rs.take i).flatMap rowR ∧ i ≤ r.rs.length ∧ out.length ≤ 301000 + 610000 * i) (fun ((V_, S_, out, i)) => r.rs.length - i) ((.slice P12 ((headR r)).length (2 * ((headR r)).length)), S10, (headR r), 0) rfl ⟨(by exact M14), ?_⟩ ?_
  · exact ⟨by assumption, by simp, by omega, by omega⟩
  ·rintro ⟨V_, S_, out, i⟩ h16 ⟨M17, ⟨hO, hE, hi1, hol⟩⟩
   subst eL15
   refine WC.env [(1, _), (3, _), (12, _), (13, _)] rfl ?_
   obtain ⟨P_, rfl⟩ := hO.shape
   refine WC.seq ?_
   refine WC.run ?_
   refine WS.lssN (a := i) (b := (r.rs).length) rfl rfl rfl (fun e14 => ?_) (fun e14 => ?_)
   ·
    refine WS.nil [(1, _), (3, _), (12, _), (13, _), (14, _)] rfl ?_
    refine WC.seq ?_
    refine WC.condT rfl ?_
    refine WC.skip ?_
    refine WC.seq ?_
    refine WC.block ?_
    refine WC.seq ?_
    refine WC.run ?_
    refine WS.op rfl rfl (WS.op rfl rfl (WS.nil [(1, _), (3, _), (4, _), (12, _), (13, _)] rfl ?_))
    refine WC.run ?_
    refine WS.op rfl rfl (WS.op rfl rfl (WS.op rfl rfl (WS.op rfl (op_ld (M17.at 2 rfl) rfl rfl) (WS.op rfl rfl ?_))))
    obtain ⟨y21, hy21⟩ : ∃ y, (r.rs)[i]? = some y := ⟨_, List.getElem?_eq_getElem (show i < (r.rs).length by first | omega | (simp only [List.length_drop, List.length_take, List.length_append, List.length_cons, List.length_nil, List.length_singleton]; omega) | (simp only [List.length_drop, List.length_take, List.length_append, List.length_cons, List.length_nil, List.length_singleton] at *; omega))⟩
    refine WS.iaVS A i hy21 rfl rfl rfl rfl ?_
    intro b21_ o21_ ha21
    refine WS.call rfl rfl rfl (walkRowW_ran (x := y21) ha21 hO ((M17.focus 1 rfl).focus 1 rfl) (by exact ⟨by omega, f3 _ (List.mem_of_getElem? hy21)⟩)) ?_
    rintro _ h18 ⟨V20, S21, O22, rfl, M19⟩
    obtain ⟨P23, rfl⟩ := O22.shape
    replace M19 : Mem _ _ (S21 :: [(p4, _)] :: [(p1, _)] :: []) _ := M19
    refine WS.nil [(1, _), (3, _), (12, _), (13, _)] rfl ?_
    refine WC.run ?_
    refine WS.opV (.int .i64 (((i + 1) : Nat) : Int)) rfl rfl (add_i64 (a := i) (b := 1) (by omega)) (WS.op rfl rfl (WS.nil [(1, _), (3, _), (12, _), (13, _)] rfl ?_))
    refine ⟨((.slice P23 ((out ++ rowR y21)).length (2 * ((out ++ rowR y21)).length)), S21, (out ++ rowR y21), i + 1), rfl, ⟨((((M19.bare.focus 2 rfl).focus 2 rfl).focus 2 rfl).take 3), ?_⟩, ?_⟩
    · exact ⟨by assumption, by rw [flatMap_take_succ rowR hy21, hE]; simp, by omega, by have t0 := f3 _ (List.mem_of_getElem? hy21); have t1 := sb_len3 t0.1; have t2 := sb_len3 t0.2; have t3 := vb_len y21.vn.toNat_lt; simp only [rowR, List.length_append]; omega⟩
    · simp only []; omega
   ·
    refine WS.nil [(1, _), (3, _), (12, _), (13, _), (14, _)] rfl ?_
    refine WC.seq ?_
    refine WC.condF rfl ?_
    refine WC.exit ?_
    refine WC.seq ?_
    refine WC.run ?_
    refine WS.op rfl rfl (WS.op rfl rfl (WS.op rfl rfl (WS.op rfl (op_ld (M17.at 1 rfl) rfl rfl) (WS.op rfl (op_cvBO hO (Mem.owni M17 0 rfl) rfl) (WS.op rfl rfl (WS.nil [(2, _)] rfl ?_))))))
    refine WC.ret ?_
    refine ⟨[_], (res_tmp rfl res_nil), ?_⟩
    rw [List.take_of_length_le (by omega)] at hE
    exact ⟨by rw [hE]; rfl, M17.bare.take 0⟩
set_option maxRecDepth 8000 in
theorem refWriteR_ran (W : Mem h h [] []) {r : Res} {V : Value} (A : KRrow.Sl h V r.rs) (hf : FitRes r) : Cll tab0 44 [r.val V] h (fun v h2 => v = .string (bs (encR r)) ∧ Mem h h2 [] []) := by
  obtain ⟨P, n, rfl⟩ := A.shape
  obtain ⟨f1, f2, f3⟩ := id hf
  have s1 := sb_len3 f1
  have s2 := vb_len r.n.toNat_lt
  have u1 := r.n.toNat_lt
  have s3 := vb_len (n := r.rs.length) (by omega)
  refine Cll.code rfl rfl ?_
  refine WC.env [(0, _)] rfl ?_
  refine WC.seq ?_
  refine WC.run ?_
  refine WS.box W [_, _, _, _] rfl rfl rfl rfl ?_
  intro p1 h2 M3
  refine WS.op rfl rfl (WS.nil [(1, _)] rfl ?_)
  refine WC.seq ?_
  refine WC.draw M3 [] rfl ?_
  intro rb4 h5 M6
  refine WS.op rfl rfl (WS.op rfl (op_ld (M6.at 0 rfl) rfl rfl) (WS.opV (.int .i64 (((r.cd).toNat : Nat) : Int)) rfl rfl (cv_i64 (n := (r.cd).toNat) (by have := UInt8.toNat_lt (r.cd); omega)) (WS.op rfl rfl (WS.op rfl (op_ld (M6.at 0 rfl) rfl rfl) (WS.op rfl rfl (WS.op rfl (op_ld (M6.at 0 rfl) rfl rfl) (WS.op rfl rfl (WS.op rfl (op_ld (M6.at 0 rfl) rfl rfl) (WS.op rfl (op_lenVS A rfl) ?_)))))))))
  refine WS.opV (.int .u64 (((r.rs).length : Nat) : Int)) rfl rfl (cv_u64 (n := (r.rs).length) (by omega)) ?_
  refine WS.call rfl rfl rfl (one_ran M6.here (n := (r.cd).toNat) (b := r.cd) (by first | rfl | simp)) ?_
  rintro _ h7 ⟨rfl, N8⟩
  have M9 := M6.trans N8
  refine WS.chk rfl (op_ld (M9.at 0 rfl) rfl rfl) rfl (sameV_refl rfl) (WS.chk rfl (op_ld (M9.at 0 rfl) rfl rfl) rfl (sameV_refl rfl) (WS.chk rfl (op_ld (M9.at 0 rfl) rfl rfl) rfl same_sl ?_))
  refine WS.call rfl rfl rfl (ref_One_ran M9.here (n := ((r.n).toNat)) (by omega)) ?_
  rintro _ h10 ⟨rfl, N11⟩
  have M12 := M9.trans N11
  refine WS.chk rfl (op_ld (M12.at 0 rfl) rfl rfl) rfl (sameV_refl rfl) (WS.chk rfl (op_ld (M12.at 0 rfl) rfl rfl) rfl same_sl (WS.op rfl (op_sadd (l := [r.cd]) (m := (vb ((r.n).toNat))) rfl rfl (by first | omega | (simp only [List.length_append, List.length_cons, List.length_nil]; omega))) ?_))
  refine WS.call rfl rfl rfl (text_ran M12.here (l := r.va) (by omega)) ?_
  rintro _ h14 ⟨rfl, N15⟩
  have M16 := M12.trans N15
  refine WS.chk rfl (op_ld (M16.at 0 rfl) rfl rfl) rfl same_sl (WS.op rfl (op_sadd (l := ([r.cd] ++ (vb ((r.n).toNat)))) (m := (sb r.va)) rfl rfl (by first | omega | (simp only [List.length_append, List.length_cons, List.length_nil]; omega))) ?_)
  refine WS.call rfl rfl rfl (ref_One_ran M16.here (n := ((r.rs).length)) (by omega)) ?_
  rintro _ h17 ⟨rfl, N18⟩
  have M19 := M16.trans N18
  refine WS.op rfl (op_sadd (l := (([r.cd] ++ (vb ((r.n).toNat))) ++ (sb r.va))) (m := (vb ((r.rs).length))) rfl rfl (by first | omega | (simp only [List.length_append, List.length_cons, List.length_nil]; omega))) (WS.op rfl rfl (WS.nil [(1, _), (3, _)] rfl ?_))
  refine WC.seq ?_
  refine WC.seq ?_
  refine WC.run ?_
  refine WS.op rfl rfl (WS.nil [(1, _), (3, _), (4, _)] rfl ?_)
  refine WC.block ?_
  obtain ⟨L21, eL23, M22⟩ := Mem.name M19.bare.bare
  refine WC.loop (σ := List UInt8 × Nat) (fun ((out, i)) => [(1, (.pointer (some ⟨p1, 0, none⟩))), (3, (.string (bs out))), (4, (.int .i64 ((i : Nat) : Int)))]) (fun ((out, i)) hh => Mem h hh (L21) [] ∧ out = headR r ++ (r.rs.take i).flatMap rowR ∧ i ≤ r.rs.length ∧ out.length ≤ 301000 + 610000 * i) (fun ((out, i)) => r.rs.length - i) (((([r.cd] ++ (vb ((r.n).toNat))) ++ (sb r.va)) ++ (vb ((r.rs).length))), 0) rfl ⟨M22, ?_⟩ ?_
  · exact ⟨by simp [headR], by omega, by simp only [List.length_append, List.length_cons, List.length_nil]; omega⟩
  ·rintro ⟨out, i⟩ h24 ⟨M25, ⟨hE, hi1, hol⟩⟩
   subst eL23
   refine WC.env [(1, _), (3, _), (4, _)] rfl ?_
   refine WC.seq ?_
   refine WC.seq ?_
   refine WC.run ?_
   refine WS.op rfl rfl (WS.op rfl rfl (WS.op rfl (op_ld (M25.at 0 rfl) rfl rfl) (WS.op rfl (op_lenVS A rfl) ?_)))
   refine WS.lssN (a := i) (b := (r.rs).length) rfl rfl rfl (fun e27 => ?_) (fun e27 => ?_)
   ·
    refine WS.nil [(1, _), (3, _), (4, _), (27, _)] rfl ?_
    refine WC.condT rfl ?_
    refine WC.skip ?_
    refine WC.seq ?_
    refine WC.block ?_
    refine WC.draw M25 [] rfl ?_
    intro rb26 h27 M28
    refine WS.op rfl rfl (WS.op rfl rfl (WS.op rfl (op_ld (M28.at 0 rfl) rfl rfl) (WS.op rfl rfl ?_)))
    obtain ⟨y34, hy34⟩ : ∃ y, (r.rs)[i]? = some y := ⟨_, List.getElem?_eq_getElem (show i < (r.rs).length by first | omega | (simp only [List.length_drop, List.length_take, List.length_append, List.length_cons, List.length_nil, List.length_singleton]; omega) | (simp only [List.length_drop, List.length_take, List.length_append, List.length_cons, List.length_nil, List.length_singleton] at *; omega))⟩
    refine WS.iaVS A i hy34 rfl rfl rfl rfl ?_
    intro b34_ o34_ ha34
    refine WS.op rfl rfl (WS.op rfl (op_ldH rfl (At.ld0 (ha34.mono M28.sub) rfl)) (WS.op rfl rfl (WS.op rfl (op_ld (M28.at 0 rfl) rfl rfl) (WS.op rfl rfl ?_))))
    refine WS.iaVS A i hy34 rfl rfl rfl rfl ?_
    intro b42_ o42_ ha42
    refine WS.op rfl rfl (WS.op rfl (op_ldH rfl (At.ld (ha42.mono M28.sub) rfl)) (WS.op rfl rfl (WS.op rfl (op_ld (M28.at 0 rfl) rfl rfl) (WS.op rfl rfl ?_))))
    refine WS.iaVS A i hy34 rfl rfl rfl rfl ?_
    intro b50_ o50_ ha50
    refine WS.op rfl rfl (WS.op rfl (op_ldH rfl (At.ld (ha50.mono M28.sub) rfl)) ?_)
    have t0 := f3 _ (List.mem_of_getElem? hy34)
    have t1 := sb_len3 t0.1
    have t2 := sb_len3 t0.2
    have t3 := vb_len y34.vn.toNat_lt
    have t4 := y34.vn.toNat_lt
    refine WS.call rfl rfl rfl (text_ran M28.here (l := y34.ky) (by omega)) ?_
    rintro _ h29 ⟨rfl, N30⟩
    have M31 := M28.trans N30
    refine WS.chk rfl (op_ld (M31.at 0 rfl) rfl rfl) rfl same_sl (WS.chk rfl (op_ldH rfl (At.ld (ha42.mono M31.sub) rfl)) rfl (sameV_refl rfl) (WS.chk rfl (op_ld (M31.at 0 rfl) rfl rfl) rfl same_sl (WS.chk rfl (op_ldH rfl (At.ld (ha50.mono M31.sub) rfl)) rfl (sameV_refl rfl) (WS.op rfl (op_sadd (l := out) (m := (sb y34.ky)) rfl rfl (by first | omega | (simp only [List.length_append, List.length_cons, List.length_nil]; omega))) ?_))))
    refine WS.call rfl rfl rfl (text_ran M31.here (l := y34.va) (by omega)) ?_
    rintro _ h32 ⟨rfl, N33⟩
    have M34 := M31.trans N33
    refine WS.chk rfl (op_ld (M34.at 0 rfl) rfl rfl) rfl same_sl (WS.chk rfl (op_ldH rfl (At.ld (ha50.mono M34.sub) rfl)) rfl (sameV_refl rfl) (WS.op rfl (op_sadd (l := (out ++ (sb y34.ky))) (m := (sb y34.va)) rfl rfl (by first | omega | (simp only [List.length_append, List.length_cons, List.length_nil]; omega))) ?_))
    refine WS.call rfl rfl rfl (ref_One_ran M34.here (n := ((y34.vn).toNat)) (by omega)) ?_
    rintro _ h35 ⟨rfl, N36⟩
    have M37 := M34.trans N36
    refine WS.op rfl (op_sadd (l := ((out ++ (sb y34.ky)) ++ (sb y34.va))) (m := (vb ((y34.vn).toNat))) rfl rfl (by first | omega | (simp only [List.length_append, List.length_cons, List.length_nil]; omega))) (WS.op rfl rfl (WS.nil [(1, _), (3, _), (4, _)] rfl ?_))
    refine WC.run ?_
    refine WS.op rfl rfl (WS.opV (.int .i64 (((i + 1) : Nat) : Int)) rfl rfl (add_i64 (a := i) (b := 1) (by omega)) (WS.op rfl rfl (WS.nil [(1, _), (3, _), (4, _)] rfl ?_)))
    refine ⟨((((out ++ (sb y34.ky)) ++ (sb y34.va)) ++ (vb ((y34.vn).toNat))), i + 1), rfl, ⟨((M37.bare.bare.focus 0 rfl).take 1), ?_⟩, ?_⟩
    · exact ⟨by rw [flatMap_take_succ rowR hy34, hE]; simp [rowR], by omega, by simp only [List.length_append, List.length_cons, List.length_nil]; omega⟩
    · simp only []; omega
   ·
    refine WS.nil [(1, _), (3, _), (4, _), (27, _)] rfl ?_
    refine WC.condF rfl ?_
    refine WC.exit ?_
    refine WC.seq ?_
    refine WC.run ?_
    refine WS.op rfl rfl (WS.op rfl rfl (WS.nil [(2, _)] rfl ?_))
    refine WC.ret ?_
    refine ⟨[_], (res_tmp rfl res_nil), ?_⟩
    rw [List.take_of_length_le (by omega)] at hE
    exact ⟨by rw [hE]; rfl, M25.bare.take 0⟩
theorem opens_5 : OpensL Try.prog 5 layU8 1 (fun _ => True) := OpensL.u8 Try.underlying5 (by kernel_rfl)
theorem opens_23 : OpensL Try.prog 23 (layP layU8 (layP layU8 (layP layU8 (layP layU8 (layP layU8 (layP layU8 (layP layU8 layU8))))))) 8 (fun _ => True) := OpensL.array (fs := [(5, 0), (5, 1), (5, 2), (5, 3), (5, 4), (5, 5), (5, 6), (5, 7)]) id (fun _ _ _ h => h) (fun _ _ => trivial) Try.underlying23 (by kernel_rfl) (by kernel_rfl) (OpensLF.cons (by decide) (by decide) opens_5 (OpensLF.cons (by decide) (by decide) opens_5 (OpensLF.cons (by decide) (by decide) opens_5 (OpensLF.cons (by decide) (by decide) opens_5 (OpensLF.cons (by decide) (by decide) opens_5 (OpensLF.cons (by decide) (by decide) opens_5 (OpensLF.cons (by decide) (by decide) opens_5 (OpensLF.one opens_5))))))))
theorem opens_3 : OpensL Try.prog 3 layI64 1 (fun _ => True) := OpensL.i64 Try.underlying3 (by kernel_rfl)
set_option maxRecDepth 100000 in
theorem opens_26 : OpensL Try.prog 26 (α := Oper) (fun _ o cs => cs = Oper.cells o) 16 (fun _ => True) := by
  refine OpensL.struct (fs := [(5, 0), (5, 1), (23, 2), (5, 10), (3, 11), (3, 12), (3, 13), (3, 14), (5, 15)]) (L := (layP layU8 (layP layU8 (layP (layP layU8 (layP layU8 (layP layU8 (layP layU8 (layP layU8 (layP layU8 (layP layU8 layU8))))))) (layP layU8 (layP layI64 (layP layI64 (layP layI64 (layP layI64 layU8))))))))) (mk := fun (op, sl, (t0, t1, t2, t3, t4, t5, t6, t7), ro, ks, bt, ra, bu, nd) => ⟨op, sl, t0, t1, t2, t3, t4, t5, t6, t7, ro, ks, bt, ra, bu, nd⟩) ?_ ?_ (by kernel_rfl) (by kernel_rfl) (OpensLF.cons (by decide) (by decide) opens_5 (OpensLF.cons (by decide) (by decide) opens_5 (OpensLF.cons (by decide) (by decide) opens_23 (OpensLF.cons (by decide) (by decide) opens_5 (OpensLF.cons (by decide) (by decide) opens_3 (OpensLF.cons (by decide) (by decide) opens_3 (OpensLF.cons (by decide) (by decide) opens_3 (OpensLF.cons (by decide) (by decide) opens_3 (OpensLF.one opens_5)))))))))
  · rintro h ⟨op, sl, ⟨t0, t1, t2, t3, t4, t5, t6, t7⟩, ro, ks, bt, ra, bu, nd⟩ cs ⟨_, _, rfl, rfl, ⟨_, _, rfl, rfl, ⟨_, _, rfl, ⟨_, _, rfl, rfl, ⟨_, _, rfl, rfl, ⟨_, _, rfl, rfl, ⟨_, _, rfl, rfl, ⟨_, _, rfl, rfl, ⟨_, _, rfl, rfl, ⟨_, _, rfl, rfl, rfl⟩⟩⟩⟩⟩⟩⟩, ⟨_, _, rfl, rfl, ⟨_, _, rfl, rfl, ⟨_, _, rfl, rfl, ⟨_, _, rfl, rfl, ⟨_, _, rfl, rfl, rfl⟩⟩⟩⟩⟩⟩⟩⟩
    rfl
  · rintro ⟨op, sl, ⟨t0, t1, t2, t3, t4, t5, t6, t7⟩, ro, ks, bt, ra, bu, nd⟩ ⟨k0, k1, k2, k3, k4, k5, k6, k7, k8⟩
    exact trivial
theorem opens_9 : OpensL Try.prog 9 layStr 1 (fun a => a.length < 9223372036854775808) := OpensL.string Try.underlying9 (by kernel_rfl)
theorem opens_27 : OpensL Try.prog 27 layU64 1 (fun _ => True) := OpensL.u64 Try.underlying27 (by kernel_rfl)
set_option maxRecDepth 100000 in
theorem opens_75 : OpensL Try.prog 75 (α := Rrow) (fun _ y cs => cs = KRrow.cells y) 3 (fun y => y.ky.length < 9223372036854775808 ∧ y.va.length < 9223372036854775808) := by
  refine OpensL.struct (fs := [(9, 0), (9, 1), (27, 2)]) (L := (layP layStr (layP layStr layU64))) (mk := fun (ky, va, vn) => ⟨ky, va, vn⟩) ?_ ?_ (by kernel_rfl) (by kernel_rfl) (OpensLF.cons (by decide) (by decide) opens_9 (OpensLF.cons (by decide) (by decide) opens_9 (OpensLF.one opens_27)))
  · rintro h ⟨ky, va, vn⟩ cs ⟨_, _, rfl, rfl, ⟨_, _, rfl, rfl, rfl⟩⟩
    rfl
  · rintro ⟨ky, va, vn⟩ ⟨k0, k1, k2⟩
    exact ⟨k0, k1⟩
theorem opens_35 : OpensL Try.prog 35 (laySl (fun _ y cs => cs = KRrow.cells y) 3) 1 (fun l => l.length < 9223372036854775808 ∧ ∀ x ∈ l, (fun y => y.ky.length < 9223372036854775808 ∧ y.va.length < 9223372036854775808) x) := OpensL.slice Try.underlying35 (by kernel_rfl) (by decide) opens_75
set_option maxRecDepth 100000 in
theorem opens_37 : OpensL Try.prog 37 (α := Res) (fun h c cs => ∃ V, cs = Res.cells c V ∧ SlL (fun _ y cs => cs = KRrow.cells y) 3 h V c.rs) 4 (fun r => r.va.length < 9223372036854775808 ∧ r.rs.length < 9223372036854775808 ∧ ∀ p ∈ r.rs, p.ky.length < 9223372036854775808 ∧ p.va.length < 9223372036854775808) := by
  refine OpensL.struct (fs := [(5, 0), (27, 1), (9, 2), (35, 3)]) (L := (layP layU8 (layP layU64 (layP layStr (laySl (fun _ y cs => cs = KRrow.cells y) 3))))) (mk := fun (cd, n, va, rs) => ⟨cd, n, va, rs⟩) ?_ ?_ (by kernel_rfl) (by kernel_rfl) (OpensLF.cons (by decide) (by decide) opens_5 (OpensLF.cons (by decide) (by decide) opens_27 (OpensLF.cons (by decide) (by decide) opens_9 (OpensLF.one opens_35))))
  · rintro h ⟨cd, n, va, rs⟩ cs ⟨_, _, rfl, rfl, ⟨_, _, rfl, rfl, ⟨_, _, rfl, rfl, ⟨V, rfl, hS⟩⟩⟩⟩
    exact ⟨V, rfl, hS⟩
  · rintro ⟨cd, n, va, rs⟩ ⟨k0, k1, k2, k3⟩
    exact ⟨k2, k3⟩
end Go.Proofs.Yteikngjiaboeaaa.Wt
namespace Go.Proofs.Yteikngjiaboeaaa.Wt
open Go Go.Proofs.Yteikngjiaboeaaa.Am Go.Proofs.Yteikngjiaboeaaa.IrAll
set_option linter.unusedVariables false
set_option linter.unusedSimpArgs false
variable {h base : H} {L : List Seg} {R : List Nat}
def zeroC : Cmd := ⟨0, 0, 0, [], [], [], [], [], 0, 0, 0, []⟩
def zeroR : Res := ⟨0, 0, [], []⟩
end Go.Proofs.Yteikngjiaboeaaa.Wt
namespace Go.Proofs.Yteikngjiaboeaaa.Wt
open Go Go.Proofs.Yteikngjiaboeaaa.Am Go.Proofs.Yteikngjiaboeaaa.IrAll
set_option linter.unusedVariables false
set_option linter.unusedSimpArgs false
def zeroO2 : Oper := ⟨0, 0, 0, 0, 0, 0, 0, 0, 0, 0, 0, 0, 0, 0, 0, 0⟩
variable {h base : H} {L : List Seg} {R : List Nat}
theorem encO_cons (o : Oper) : encO o = o.op :: (encO o).tail := by
  by_cases h1 : o.op.toNat = 1
  · rw [encO_1 h1]; rfl
  by_cases h2 : o.op.toNat = 2
  · rw [encO_2 h2]; rfl
  by_cases h3 : o.op.toNat = 3
  · rw [encO_3 h3]; rfl
  by_cases h4 : o.op.toNat = 4
  · rw [encO_4 h4]; rfl
  unfold encO; rw [if_neg h1, if_neg h2, if_neg h3, if_neg h4]; rfl
def SameRH (a b : Res) : Prop := a.cd.toNat = b.cd.toNat ∧ a.n.toNat = b.n.toNat ∧ a.va = b.va ∧ a.rs.length = b.rs.length
theorem sameR_yes {a b : Res} (q : SameRH a b) (hp : a.rs = b.rs) : a = b := by
  obtain ⟨q1, q2, q3, _⟩ := q
  obtain ⟨⟩ := a; obtain ⟨⟩ := b
  simp only at *
  rw [u8_inj q1, u64_inj q2, q3, hp]
theorem sameR_no {a b : Res} (q : ¬ SameRH a b) : a ≠ b := fun e => q (by subst e; exact ⟨rfl, rfl, rfl, rfl⟩)
theorem SameR_ran (W : Mem h h [] []) {a b : Res} {V V2 : Value} (A : KRrow.Sl h V a.rs) (B : KRrow.Sl h V2 b.rs) (hl : a.rs.length ≤ 1000000) : Cll tab0 49 [a.val V, b.val V2] h (fun v h2 => v = .bool (decide (a = b)) ∧ Mem h h2 [] []) := by
  obtain ⟨P, n, rfl⟩ := A.shape
  obtain ⟨P2, n2, rfl⟩ := B.shape
  refine Cll.code rfl rfl ?_
  refine WC.env [(0, _), (1, _)] rfl ?_
  refine WC.seq ?_
  refine WC.run ?_
  refine WS.box W [_, _, _, _] rfl rfl rfl rfl ?_
  intro p1 h2 M3
  refine WS.box M3 [_, _, _, _] rfl rfl rfl rfl ?_
  intro p4 h5 M6
  refine WS.op rfl rfl (WS.nil [(2, _), (3, _)] rfl ?_)
  refine WC.seq ?_
  refine WC.seq ?_
  obtain ⟨L7, eL9, M8⟩ := Mem.name M6.bare
  refine WC.joinB (base := h) (fun b => [(2, (.pointer (some ⟨p1, 0, none⟩))), (3, (.pointer (some ⟨p4, 0, none⟩))), (33, .bool b)]) L7 (¬ SameRH a b) (SameRH a b) ?_ ?_ ?_
  ·subst eL9
   refine WS.op rfl rfl (WS.op rfl (op_ld (M8.at 1 rfl) rfl rfl) (WS.op rfl rfl (WS.op rfl (op_ld (M8.at 0 rfl) rfl rfl) ?_)))
   refine WS.neqN (a := (a.cd).toNat) (b := (b.cd).toNat) rfl rfl rfl (fun e10 => ?_) (fun e10 => ?_)
   ·
    refine WS.op rfl rfl (WS.off rfl (WS.off rfl (WS.off rfl (WS.off rfl (WS.off rfl (WS.op rfl rfl (WS.op rfl rfl (WS.off rfl (WS.off rfl ?_)))))))))
    refine WS.off rfl (WS.off rfl (WS.off rfl (WS.op rfl rfl (WS.op rfl rfl (WS.off rfl (WS.off rfl (WS.off rfl (WS.off rfl (WS.off rfl ?_)))))))))
    refine WS.off rfl (WS.off rfl (WS.op rfl rfl ?_))
    refine WS.nil' ⟨true, rfl, (((M8.bare.focus 1 rfl).focus 1 rfl).take 2), fun _ => ?_, fun hh => ?_⟩
    · rintro ⟨q0, q1, q2, q3⟩; first | exact e10 q0 | exact e16 q1 | exact e23 q2 | exact e32 q3
    · cases hh
   ·
    refine WS.op rfl rfl (WS.op rfl rfl (WS.op rfl (op_ld (M8.at 1 rfl) rfl rfl) (WS.op rfl rfl (WS.op rfl (op_ld (M8.at 0 rfl) rfl rfl) ?_))))
    refine WS.neqN (a := (a.n).toNat) (b := (b.n).toNat) rfl rfl rfl (fun e16 => ?_) (fun e16 => ?_)
    ·
     refine WS.op rfl rfl (WS.op rfl rfl (WS.off rfl (WS.off rfl (WS.off rfl (WS.off rfl (WS.off rfl (WS.op rfl rfl (WS.op rfl rfl (WS.off rfl ?_)))))))))
     refine WS.off rfl (WS.off rfl (WS.off rfl (WS.off rfl (WS.off rfl (WS.off rfl (WS.op rfl rfl ?_))))))
     refine WS.nil' ⟨true, rfl, (((M8.bare.focus 1 rfl).focus 1 rfl).take 2), fun _ => ?_, fun hh => ?_⟩
     · rintro ⟨q0, q1, q2, q3⟩; first | exact e10 q0 | exact e16 q1 | exact e23 q2 | exact e32 q3
     · cases hh
    ·
     refine WS.op rfl rfl (WS.op rfl rfl (WS.op rfl rfl (WS.op rfl (op_ld (M8.at 1 rfl) rfl rfl) (WS.op rfl rfl (WS.op rfl (op_ld (M8.at 0 rfl) rfl rfl) ?_)))))
     refine WS.sneq (l := a.va) (m := b.va) rfl rfl rfl (fun e23 => ?_) (fun e23 => ?_)
     ·
      refine WS.op rfl rfl (WS.op rfl rfl (WS.off rfl (WS.off rfl (WS.off rfl (WS.off rfl (WS.off rfl (WS.off rfl (WS.off rfl (WS.op rfl rfl ?_)))))))))
      refine WS.nil' ⟨true, rfl, (((M8.bare.focus 1 rfl).focus 1 rfl).take 2), fun _ => ?_, fun hh => ?_⟩
      · rintro ⟨q0, q1, q2, q3⟩; first | exact e10 q0 | exact e16 q1 | exact e23 q2 | exact e32 q3
      · cases hh
     ·
      refine WS.op rfl rfl (WS.op rfl rfl (WS.op rfl rfl (WS.op rfl (op_ld (M8.at 1 rfl) rfl rfl) (WS.op rfl (op_lenVS A rfl) (WS.op rfl rfl (WS.op rfl (op_ld (M8.at 0 rfl) rfl rfl) (WS.op rfl (op_lenVS B rfl) ?_)))))))
      refine WS.neqN (a := (a.rs).length) (b := (b.rs).length) rfl rfl rfl (fun e32 => ?_) (fun e32 => ?_)
      ·
       refine WS.op rfl rfl ?_
       refine WS.nil' ⟨true, rfl, (((M8.bare.focus 1 rfl).focus 1 rfl).take 2), fun _ => ?_, fun hh => ?_⟩
       · rintro ⟨q0, q1, q2, q3⟩; first | exact e10 q0 | exact e16 q1 | exact e23 q2 | exact e32 q3
       · cases hh
      ·
       refine WS.op rfl rfl ?_
       refine WS.nil' ⟨false, rfl, (((M8.bare.focus 1 rfl).focus 1 rfl).take 2), fun hh => ?_, fun _ => ?_⟩
       · cases hh
       · exact ⟨e10, e16, e23, e32⟩
  ·intro h10 M11 hp33
   subst eL9
   refine WC.condT rfl ?_
   refine WC.seq ?_
   refine WC.run ?_
   refine WS.op rfl rfl (WS.nil [(4, _)] rfl ?_)
   refine WC.ret ?_
   refine ⟨[_], (res_tmp rfl res_nil), ?_⟩
   exact ⟨by rw [decide_eq_false (sameR_no hp33)]; rfl, M11.bare.take 0⟩
  ·intro h12 M13 hp33
   subst eL9
   refine WC.condF rfl ?_
   refine WC.skip ?_
   refine WC.seq ?_
   refine WC.seq ?_
   refine WC.run ?_
   refine WS.op rfl rfl (WS.nil [(2, _), (3, _), (5, _)] rfl ?_)
   refine WC.block ?_
   obtain ⟨L14, eL16, M15⟩ := Mem.name M13.bare
   refine WC.loop (σ := Nat) (fun (i) => [(2, (.pointer (some ⟨p1, 0, none⟩))), (3, (.pointer (some ⟨p4, 0, none⟩))), (5, (.int .i64 ((i : Nat) : Int)))]) (fun (i) hh => Mem h hh (L14) [] ∧ a.rs.take i = b.rs.take i ∧ i ≤ a.rs.length) (fun (i) => a.rs.length - i) (0) rfl ⟨M15, ?_⟩ ?_
   · exact ⟨rfl, by omega⟩
   ·rintro i h17 ⟨M18, ⟨hO, hi1⟩⟩
    subst eL16
    refine WC.env [(2, _), (3, _), (5, _)] rfl ?_
    refine WC.seq ?_
    refine WC.seq ?_
    refine WC.run ?_
    refine WS.op rfl rfl (WS.op rfl rfl (WS.op rfl (op_ld (M18.at 1 rfl) rfl rfl) (WS.op rfl (op_lenVS A rfl) ?_)))
    refine WS.lssN (a := i) (b := (a.rs).length) rfl rfl rfl (fun e38 => ?_) (fun e38 => ?_)
    ·
     refine WS.nil [(2, _), (3, _), (5, _), (38, _)] rfl ?_
     refine WC.condT rfl ?_
     refine WC.skip ?_
     refine WC.seq ?_
     refine WC.block ?_
     refine WC.seq ?_
     refine WC.draw M18 [] rfl ?_
     intro rb19 h20 M21
     refine WS.op rfl rfl (WS.op rfl (op_ld (M21.at 1 rfl) rfl rfl) (WS.op rfl rfl ?_))
     obtain ⟨y44, hy44⟩ : ∃ y, (a.rs)[i]? = some y := ⟨_, List.getElem?_eq_getElem (show i < (a.rs).length by first | omega | (simp only [List.length_drop, List.length_take, List.length_append, List.length_cons, List.length_nil, List.length_singleton]; omega) | (simp only [List.length_drop, List.length_take, List.length_append, List.length_cons, List.length_nil, List.length_singleton] at *; omega))⟩
     refine WS.iaVS A i hy44 rfl rfl rfl rfl ?_
     intro b44_ o44_ ha44
     refine WS.op rfl (op_ldAt rfl (ha44.mono M21.sub) rfl) (WS.op rfl rfl (WS.op rfl (op_ld (M21.at 0 rfl) rfl rfl) (WS.op rfl rfl ?_)))
     obtain ⟨y49, hy49⟩ : ∃ y, (b.rs)[i]? = some y := ⟨_, List.getElem?_eq_getElem (show i < (b.rs).length by have := hp33.2.2.2; omega)⟩
     refine WS.iaVS B i hy49 rfl rfl rfl rfl ?_
     intro b49_ o49_ ha49
     refine WS.op rfl (op_ldAt rfl (ha49.mono M21.sub) rfl) ?_
     refine WS.eqqDn (p := y44 = y49) rfl rfl rfl (Rrow_eqV _ _) (fun e51 => ?_) (fun e51 => ?_)
     ·
      refine WS.nil [(2, _), (3, _), (5, _), (51, _)] rfl ?_
      refine WC.condT rfl ?_
      refine WC.seq ?_
      refine WC.run ?_
      refine WS.op rfl rfl (WS.nil [(4, _)] rfl ?_)
      refine WC.ret ?_
      refine ⟨[_], (res_tmp rfl res_nil), ?_⟩
      exact ⟨by rw [decide_eq_false (fun q => ne_of_get hy44 hy49 e51 (congrArg Res.rs q))]; rfl, M21.bare.bare.take 0⟩
     ·
      refine WS.nil [(2, _), (3, _), (5, _), (51, _)] rfl ?_
      refine WC.condF rfl ?_
      refine WC.skip ?_
      refine WC.run ?_
      refine WS.op rfl rfl (WS.opV (.int .i64 (((i + 1) : Nat) : Int)) rfl rfl (add_i64 (a := i) (b := 1) (by omega)) (WS.op rfl rfl (WS.nil [(2, _), (3, _), (5, _)] rfl ?_)))
      refine ⟨i + 1, rfl, ⟨(((M21.bare.bare.focus 1 rfl).focus 1 rfl).take 2), ?_⟩, ?_⟩
      · exact ⟨eq_take_step hO hy44 hy49 (by assumption), by omega⟩
      · simp only []; omega
    ·
     refine WS.nil [(2, _), (3, _), (5, _), (38, _)] rfl ?_
     refine WC.condF rfl ?_
     refine WC.exit ?_
     refine WC.seq ?_
     refine WC.run ?_
     refine WS.op rfl rfl (WS.nil [(4, _)] rfl ?_)
     refine WC.ret ?_
     refine ⟨[_], (res_tmp rfl res_nil), ?_⟩
     have hln := hp33.2.2.2
     rw [List.take_of_length_le (by omega), List.take_of_length_le (by omega)] at hO
     exact ⟨by rw [decide_eq_true (sameR_yes hp33 hO)]; rfl, M18.bare.take 0⟩
end Go.Proofs.Yteikngjiaboeaaa.Wt
namespace Go.Proofs.Yteikngjiaboeaaa.Wt
open Go Go.Proofs.Yteikngjiaboeaaa.Am Go.Proofs.Yteikngjiaboeaaa.IrAll
set_option linter.unusedVariables false
set_option linter.unusedSimpArgs false
variable {h base : H} {L : List Seg} {R : List Nat}
set_option maxRecDepth 100000 in
theorem opens_84 : OpensL Try.prog 84 (α := Part) (fun _ y cs => cs = KPart.cells y) 3 (fun y => y.ky.length < 9223372036854775808 ∧ y.va.length < 9223372036854775808) := by
  refine OpensL.struct (fs := [(5, 0), (9, 1), (9, 2)]) (L := (layP layU8 (layP layStr layStr))) (mk := fun (op, ky, va) => ⟨op, ky, va⟩) ?_ ?_ (by kernel_rfl) (by kernel_rfl) (OpensLF.cons (by decide) (by decide) opens_5 (OpensLF.cons (by decide) (by decide) opens_9 (OpensLF.one opens_9)))
  · rintro h ⟨op, ky, va⟩ cs ⟨_, _, rfl, rfl, ⟨_, _, rfl, rfl, rfl⟩⟩
    rfl
  · rintro ⟨op, ky, va⟩ ⟨k0, k1, k2⟩
    exact ⟨k1, k2⟩
theorem opens_28 : OpensL Try.prog 28 (laySl (fun _ y cs => cs = KPart.cells y) 3) 1 (fun l => l.length < 9223372036854775808 ∧ ∀ x ∈ l, (fun y => y.ky.length < 9223372036854775808 ∧ y.va.length < 9223372036854775808) x) := OpensL.slice Try.underlying28 (by kernel_rfl) (by decide) opens_84
set_option maxRecDepth 100000 in
theorem opens_30 : OpensL Try.prog 30 (α := Cmd) (fun h c cs => ∃ V, cs = Cmd.cells c V ∧ SlL (fun _ y cs => cs = KPart.cells y) 3 h V c.ps) 12 (fun c => c.ky.length < 9223372036854775808 ∧ c.va.length < 9223372036854775808 ∧ c.ex.length < 9223372036854775808 ∧ c.fr.length < 9223372036854775808 ∧ c.to.length < 9223372036854775808 ∧ c.ps.length < 9223372036854775808 ∧ ∀ p ∈ c.ps, p.ky.length < 9223372036854775808 ∧ p.va.length < 9223372036854775808) := by
  refine OpensL.struct (fs := [(5, 0), (27, 1), (27, 2), (9, 3), (9, 4), (9, 5), (9, 6), (9, 7), (5, 8), (27, 9), (27, 10), (28, 11)]) (L := (layP layU8 (layP layU64 (layP layU64 (layP layStr (layP layStr (layP layStr (layP layStr (layP layStr (layP layU8 (layP layU64 (layP layU64 (laySl (fun _ y cs => cs = KPart.cells y) 3))))))))))))) (mk := fun (op, se, sq, ky, va, ex, fr, to, li, le, tt, ps) => ⟨op, se, sq, ky, va, ex, fr, to, li, le, tt, ps⟩) ?_ ?_ (by kernel_rfl) (by kernel_rfl) (OpensLF.cons (by decide) (by decide) opens_5 (OpensLF.cons (by decide) (by decide) opens_27 (OpensLF.cons (by decide) (by decide) opens_27 (OpensLF.cons (by decide) (by decide) opens_9 (OpensLF.cons (by decide) (by decide) opens_9 (OpensLF.cons (by decide) (by decide) opens_9 (OpensLF.cons (by decide) (by decide) opens_9 (OpensLF.cons (by decide) (by decide) opens_9 (OpensLF.cons (by decide) (by decide) opens_5 (OpensLF.cons (by decide) (by decide) opens_27 (OpensLF.cons (by decide) (by decide) opens_27 (OpensLF.one opens_28))))))))))))
  · rintro h ⟨op, se, sq, ky, va, ex, fr, to, li, le, tt, ps⟩ cs ⟨_, _, rfl, rfl, ⟨_, _, rfl, rfl, ⟨_, _, rfl, rfl, ⟨_, _, rfl, rfl, ⟨_, _, rfl, rfl, ⟨_, _, rfl, rfl, ⟨_, _, rfl, rfl, ⟨_, _, rfl, rfl, ⟨_, _, rfl, rfl, ⟨_, _, rfl, rfl, ⟨_, _, rfl, rfl, ⟨V, rfl, hS⟩⟩⟩⟩⟩⟩⟩⟩⟩⟩⟩⟩
    exact ⟨V, rfl, hS⟩
  · rintro ⟨op, se, sq, ky, va, ex, fr, to, li, le, tt, ps⟩ ⟨k0, k1, k2, k3, k4, k5, k6, k7, k8, k9, k10, k11⟩
    exact ⟨k3, k4, k5, k6, k7, k11⟩
end Go.Proofs.Yteikngjiaboeaaa.Wt
namespace Go.Proofs.Yteikngjiaboeaaa.Wt
open Go Go.Proofs.Yteikngjiaboeaaa.Am Go.Proofs.Yteikngjiaboeaaa.IrAll
set_option linter.unusedVariables false
set_option linter.unusedSimpArgs false
variable {h base : H} {L : List Seg} {R : List Nat}
theorem encO_len {o : Oper} : (encO o).length ≤ 50 := by
  have v1 := vb_len (nu o.ks).toNat_lt
  have v2 := vb_len (nu o.bt).toNat_lt
  have v3 := vb_len (nu o.ra).toNat_lt
  have v4 := vb_len (nu o.bu).toNat_lt
  unfold encO Oper.tok
  repeat' split
  all_goals simp only [List.length_append, List.length_cons, List.length_nil]; omega
theorem wrC_t {c : Cmd} (h : (if mayB c then encC c else []) ≠ []) : mayB c = true := by
  cases q : mayB c with
  | true => rfl
  | false => rw [q] at h; exact absurd rfl h
theorem wrO_t {c : Oper} (h : (if mayOB c then encO c else []) ≠ []) : mayOB c = true := by
  cases q : mayOB c with
  | true => rfl
  | false => rw [q] at h; exact absurd rfl h
theorem wrO_len {c : Oper} : (if mayOB c then encO c else []).length ≤ 50 := by
  split
  · exact encO_len
  · simp
end Go.Proofs.Yteikngjiaboeaaa.Wt
namespace Go.Proofs.Yteikngjiaboeaaa.Wt
open Go Go.Proofs.Yteikngjiaboeaaa.Am Go.Proofs.Yteikngjiaboeaaa.IrAll
set_option linter.unusedVariables false
set_option linter.unusedSimpArgs false
variable {h base : H} {L : List Seg} {R : List Nat}
def nx (ts : List (List UInt8)) (k : Nat) : List UInt8 := (ts[k]?).getD []
end Go.Proofs.Yteikngjiaboeaaa.Wt
namespace Go.Proofs.Yteikngjiaboeaaa.Wt
open Go Go.Proofs.Yteikngjiaboeaaa.Am Go.Proofs.Yteikngjiaboeaaa.IrAll
set_option linter.unusedVariables false
set_option linter.unusedSimpArgs false
structure Frm where
  kd : UInt8
  t0 : UInt8
  t1 : UInt8
  t2 : UInt8
  t3 : UInt8
  t4 : UInt8
  t5 : UInt8
  t6 : UInt8
  t7 : UInt8
  c : Cmd
  o : Oper
  deriving DecidableEq
def Frm.cells (f : Frm) (V : Value) : List Value := [(.int .u8 (((f.kd).toNat : Nat) : Int)), (.int .u8 (((f.t0).toNat : Nat) : Int)), (.int .u8 (((f.t1).toNat : Nat) : Int)), (.int .u8 (((f.t2).toNat : Nat) : Int)), (.int .u8 (((f.t3).toNat : Nat) : Int)), (.int .u8 (((f.t4).toNat : Nat) : Int)), (.int .u8 (((f.t5).toNat : Nat) : Int)), (.int .u8 (((f.t6).toNat : Nat) : Int)), (.int .u8 (((f.t7).toNat : Nat) : Int)), (.int .u8 (((f.c.op).toNat : Nat) : Int)), (.int .u64 (((f.c.se).toNat : Nat) : Int)), (.int .u64 (((f.c.sq).toNat : Nat) : Int)), (.string (bs f.c.ky)), (.string (bs f.c.va)), (.string (bs f.c.ex)), (.string (bs f.c.fr)), (.string (bs f.c.to)), (.int .u8 (((f.c.li).toNat : Nat) : Int)), (.int .u64 (((f.c.le).toNat : Nat) : Int)), (.int .u64 (((f.c.tt).toNat : Nat) : Int)), V, (.int .u8 (((f.o.op).toNat : Nat) : Int)), (.int .u8 (((f.o.sl).toNat : Nat) : Int)), (.int .u8 (((f.o.t0).toNat : Nat) : Int)), (.int .u8 (((f.o.t1).toNat : Nat) : Int)), (.int .u8 (((f.o.t2).toNat : Nat) : Int)), (.int .u8 (((f.o.t3).toNat : Nat) : Int)), (.int .u8 (((f.o.t4).toNat : Nat) : Int)), (.int .u8 (((f.o.t5).toNat : Nat) : Int)), (.int .u8 (((f.o.t6).toNat : Nat) : Int)), (.int .u8 (((f.o.t7).toNat : Nat) : Int)), (.int .u8 (((f.o.ro).toNat : Nat) : Int)), (.int .i64 (f.o.ks).toInt), (.int .i64 (f.o.bt).toInt), (.int .i64 (f.o.ra).toInt), (.int .i64 (f.o.bu).toInt), (.int .u8 (((f.o.nd).toNat : Nat) : Int))]
def Frm.val (f : Frm) (V : Value) : Value := .agg (f.cells V).toArray
variable {h base : H} {L : List Seg} {R : List Nat}
theorem or_u64 {a b : Nat} (ha : a < 18446744073709551616) (hb : b < 18446744073709551616) : Value.int .u64 (IntKind.u64.wrap ((BitVec.ofInt IntKind.u64.bits (a : Int) ||| BitVec.ofInt IntKind.u64.bits (b : Int)).toNat : Nat)) = .int .u64 ((a ||| b : Nat) : Int) := by
  congr 1; exact bvo64 a b ha hb
theorem or_lt64 {a b : Nat} (ha : a < 18446744073709551616) (hb : b < 18446744073709551616) : a ||| b < 18446744073709551616 := Nat.or_lt_two_pow (n := 64) ha hb
theorem parts_lenF {ps : List Part} (h : FitP ps) : (ps.flatMap partB).length ≤ ps.length * 600100 := by
  induction ps with
  | nil => simp
  | cons p ps ih =>
    have h1 := ih fun x hx => h x (by simp [hx])
    have hp := partB_len (h p (by simp))
    simp only [List.flatMap_cons, List.length_append, List.length_cons]; omega
theorem encC_lenF {c : Cmd} (hm : MayC c) (ht : Fit c) : (encC c).length ≤ 10000000 := by
  obtain ⟨t1, t2, t3, t4, t5, t6, t7⟩ := ht
  have v1 := vb_len c.se.toNat_lt
  have v2 := vb_len c.sq.toNat_lt
  have v3 := vb_len c.tt.toNat_lt
  have v4 := vb_len c.le.toNat_lt
  have s1 := sb_len3 t1
  have s2 := sb_len3 t2
  have s3 := sb_len3 t3
  have s4 := sb_len3 t4
  have s5 := sb_len3 t5
  have p1 := parts_lenF t7
  have hb : (bodyB c).length ≤ 9000000 := by
    unfold bodyB
    split
    · omega
    split
    · simp only [List.length_append]; omega
    split
    · omega
    split
    · simp only [List.length_append]; omega
    split
    · have := (hm.2.2.1 (by assumption)).2; simp only [List.length_append, List.length_cons, List.length_nil]; omega
    split
    · omega
    split
    · simp only [List.length_append, List.length_cons, List.length_nil]; omega
    · simp
  simp only [encC, headB, List.length_append, List.length_cons, List.length_nil]; omega
theorem wrC_lenF {c : Cmd} (ht : Fit c) : (if mayB c then encC c else []).length ≤ 10000000 := by
  split
  · rename_i q; exact encC_lenF (of_decide_eq_true q) ht
  · simp
theorem rows_lenF {ps : List Rrow} (h : FitR ps) : (ps.flatMap rowR).length ≤ ps.length * 600040 := by
  induction ps with
  | nil => simp
  | cons p ps ih =>
    have h1 := ih fun x hx => h x (by simp [hx])
    have h2 := h p (by simp)
    have s1 := sb_len3 h2.1
    have s2 := sb_len3 h2.2
    have s3 := vb_len p.vn.toNat_lt
    simp only [List.flatMap_cons, List.length_append, List.length_cons, rowR]; omega
theorem encR_lenF {r : Res} (h : FitRes r) : (encR r).length ≤ 200000000000 := by
  have s1 := sb_len3 h.1
  have s2 := vb_len r.n.toNat_lt
  have s3 := vb_len (n := r.rs.length) (by have := h.2.1; omega)
  have s4 := rows_lenF h.2.2
  have := h.2.1
  simp only [encR, headR, List.length_append, List.length_cons, List.length_nil]; omega
theorem encC_ne (c : Cmd) : encC c ≠ [] := by simp [encC, headB]
theorem encO_ne (o : Oper) : encO o ≠ [] := by rw [encO_cons]; simp
theorem wrC_nil {c : Cmd} (h : (if mayB c then encC c else []) = []) : ¬ MayC c := fun q => by
  rw [if_pos (show mayB c = true from decide_eq_true q)] at h; exact encC_ne c h
theorem wrO_nil {o : Oper} (h : (if mayOB o then encO o else []) = []) : ¬ MayO o := fun q => by
  rw [if_pos (show mayOB o = true from decide_eq_true q)] at h; exact encO_ne o h
def OpOnly (c : Cmd) : Prop := c = ⟨c.op, 0, 0, [], [], [], [], [], 0, 0, 0, []⟩
instance (c : Cmd) : Decidable (OpOnly c) := by unfold OpOnly; infer_instance
def MayF (f : Frm) : Prop := (f.kd.toNat = 1 ∧ f.o = zeroO2 ∧ MayC f.c) ∨ (f.kd.toNat = 2 ∧ f.c = zeroC ∧ MayO f.o)
instance (f : Frm) : Decidable (MayF f) := by unfold MayF; infer_instance
def mayFB (f : Frm) : Bool := decide (MayF f)
def tailF (f : Frm) : List UInt8 := if f.kd.toNat = 1 then encC f.c else encO f.o
def encF (f : Frm) : List UInt8 := [f.kd, f.t0, f.t1, f.t2, f.t3, f.t4, f.t5, f.t6, f.t7] ++ tailF f
theorem tailF_1 {f : Frm} (h : f.kd.toNat = 1) : tailF f = encC f.c := if_pos h
theorem tailF_2 {f : Frm} (h : f.kd.toNat = 2) : tailF f = encO f.o := if_neg (by omega)
theorem or_zero {a b : Nat} (h : a ||| b = 0) : a = 0 ∧ b = 0 := by
  have h1 : a ≤ a ||| b := Nat.left_le_or
  have h2 : b ≤ a ||| b := Nat.right_le_or
  omega
theorem blank_ran (W : Mem h h [] []) {c : Cmd} {V : Value} (A : KPart.Sl h V c.ps) (hf : Fit c) : Cll tab0 25 [c.val V] h (fun v h2 => v = .bool (decide (OpOnly c)) ∧ Mem h h2 [] []) := by
  obtain ⟨P, n, rfl⟩ := A.shape
  obtain ⟨f1, f2, f3, f4, f5, f6, f7⟩ := hf
  refine Cll.code rfl rfl ?_
  refine WC.env [(0, _)] rfl ?_
  refine WC.seq ?_
  refine WC.run ?_
  refine WS.box W [_, _, _, _, _, _, _, _, _, _, _, _] rfl rfl rfl rfl ?_
  intro p1 h2 M3
  refine WS.op rfl rfl (WS.nil [(1, _)] rfl ?_)
  refine WC.seq ?_
  refine WC.seq ?_
  refine WC.run ?_
  refine WS.op rfl rfl (WS.op rfl (op_ld (M3.at 0 rfl) rfl rfl) (WS.op rfl rfl (WS.op rfl (op_ld (M3.at 0 rfl) rfl rfl) (WS.op rfl (op_sadd (l := c.ky) (m := c.va) rfl rfl (by first | omega | (simp only [List.length_append]; omega))) (WS.op rfl rfl (WS.op rfl (op_ld (M3.at 0 rfl) rfl rfl) (WS.op rfl (op_sadd (l := (c.ky ++ c.va)) (m := c.ex) rfl rfl (by first | omega | (simp only [List.length_append]; omega))) (WS.op rfl rfl (WS.op rfl (op_ld (M3.at 0 rfl) rfl rfl) ?_)))))))))
  refine WS.op rfl (op_sadd (l := ((c.ky ++ c.va) ++ c.ex)) (m := c.fr) rfl rfl (by first | omega | (simp only [List.length_append]; omega))) (WS.op rfl rfl (WS.op rfl (op_ld (M3.at 0 rfl) rfl rfl) (WS.op rfl (op_sadd (l := (((c.ky ++ c.va) ++ c.ex) ++ c.fr)) (m := c.to) rfl rfl (by first | omega | (simp only [List.length_append]; omega))) ?_)))
  refine WS.sneq (l := ((((c.ky ++ c.va) ++ c.ex) ++ c.fr) ++ c.to)) (m := []) rfl rfl rfl (fun e17 => ?_) (fun e17 => ?_)
  ·
   refine WS.op rfl rfl (WS.off rfl (WS.off rfl (WS.off rfl (WS.off rfl (WS.op rfl rfl (WS.op rfl rfl (WS.off rfl (WS.off rfl (WS.off rfl ?_)))))))))
   refine WS.op rfl rfl (WS.nil [(1, _), (28, _)] rfl ?_)
   refine WC.condT rfl ?_
   refine WC.seq ?_
   refine WC.run ?_
   refine WS.op rfl rfl (WS.nil [(2, _)] rfl ?_)
   refine WC.ret ?_
   refine ⟨[_], (res_tmp rfl res_nil), ?_⟩
   have hno : ¬ OpOnly c := by
     intro q
     obtain ⟨op, se, sq, ky, va, ex, fr, to, li, le, tt, ps⟩ := c
     unfold OpOnly at q
     simp only [Cmd.mk.injEq, true_and] at q
     obtain ⟨q1, q2, q3, q4, q5, q6, q7, q8, q9, q10, q11⟩ := q
     subst q1 q2 q3 q4 q5 q6 q7 q8 q9 q10 q11
     first | exact absurd rfl e17 | (exfalso; simp at e22; done) | exact absurd rfl e27 | (exact absurd (by simp) e40)
   exact ⟨vbf hno, M3.bare.take 0⟩
  ·
   refine WS.op rfl rfl (WS.op rfl rfl (WS.op rfl (op_ld (M3.at 0 rfl) rfl rfl) (WS.op rfl (op_lenVS A rfl) ?_)))
   refine WS.gtrN (a := (c.ps).length) (b := 0) rfl rfl rfl (fun e22 => ?_) (fun e22 => ?_)
   ·
    refine WS.op rfl rfl (WS.op rfl rfl (WS.off rfl (WS.off rfl (WS.off rfl (WS.op rfl rfl (WS.nil [(1, _), (28, _)] rfl ?_))))))
    refine WC.condT rfl ?_
    refine WC.seq ?_
    refine WC.run ?_
    refine WS.op rfl rfl (WS.nil [(2, _)] rfl ?_)
    refine WC.ret ?_
    refine ⟨[_], (res_tmp rfl res_nil), ?_⟩
    have hno : ¬ OpOnly c := by
      intro q
      obtain ⟨op, se, sq, ky, va, ex, fr, to, li, le, tt, ps⟩ := c
      unfold OpOnly at q
      simp only [Cmd.mk.injEq, true_and] at q
      obtain ⟨q1, q2, q3, q4, q5, q6, q7, q8, q9, q10, q11⟩ := q
      subst q1 q2 q3 q4 q5 q6 q7 q8 q9 q10 q11
      first | exact absurd rfl e17 | (exfalso; simp at e22; done) | exact absurd rfl e27 | (exact absurd (by simp) e40)
    exact ⟨vbf hno, M3.bare.take 0⟩
   ·
    refine WS.op rfl rfl (WS.op rfl rfl (WS.op rfl rfl (WS.op rfl (op_ld (M3.at 0 rfl) rfl rfl) ?_)))
    refine WS.neqN (a := (c.li).toNat) (b := 0) rfl rfl rfl (fun e27 => ?_) (fun e27 => ?_)
    ·
     refine WS.op rfl rfl (WS.nil [(1, _), (28, _)] rfl ?_)
     refine WC.condT rfl ?_
     refine WC.seq ?_
     refine WC.run ?_
     refine WS.op rfl rfl (WS.nil [(2, _)] rfl ?_)
     refine WC.ret ?_
     refine ⟨[_], (res_tmp rfl res_nil), ?_⟩
     have hno : ¬ OpOnly c := by
       intro q
       obtain ⟨op, se, sq, ky, va, ex, fr, to, li, le, tt, ps⟩ := c
       unfold OpOnly at q
       simp only [Cmd.mk.injEq, true_and] at q
       obtain ⟨q1, q2, q3, q4, q5, q6, q7, q8, q9, q10, q11⟩ := q
       subst q1 q2 q3 q4 q5 q6 q7 q8 q9 q10 q11
       first | exact absurd rfl e17 | (exfalso; simp at e22; done) | exact absurd rfl e27 | (exact absurd (by simp) e40)
     exact ⟨vbf hno, M3.bare.take 0⟩
    ·
     refine WS.op rfl rfl (WS.nil [(1, _), (28, _)] rfl ?_)
     refine WC.condF rfl ?_
     refine WC.skip ?_
     refine WC.seq ?_
     refine WC.run ?_
     refine WS.op rfl rfl (WS.op rfl (op_ld (M3.at 0 rfl) rfl rfl) (WS.op rfl rfl (WS.op rfl (op_ld (M3.at 0 rfl) rfl rfl) (WS.opV (.int .u64 ((((c.se).toNat ||| (c.sq).toNat) : Nat) : Int)) rfl rfl (or_u64 (a := (c.se).toNat) (b := (c.sq).toNat) (by have := UInt64.toNat_lt (c.se); omega) (by have := UInt64.toNat_lt (c.sq); omega)) (WS.op rfl rfl (WS.op rfl (op_ld (M3.at 0 rfl) rfl rfl) (WS.opV (.int .u64 (((((c.se).toNat ||| (c.sq).toNat) ||| (c.le).toNat) : Nat) : Int)) rfl rfl (or_u64 (a := ((c.se).toNat ||| (c.sq).toNat)) (b := (c.le).toNat) (by have := or_lt64 (a := (c.se).toNat) (b := (c.sq).toNat) (by have := UInt64.toNat_lt (c.se); omega) (by have := UInt64.toNat_lt (c.sq); omega); omega) (by have := UInt64.toNat_lt (c.le); omega)) (WS.op rfl rfl (WS.op rfl (op_ld (M3.at 0 rfl) rfl rfl) ?_)))))))))
     refine WS.opV (.int .u64 ((((((c.se).toNat ||| (c.sq).toNat) ||| (c.le).toNat) ||| (c.tt).toNat) : Nat) : Int)) rfl rfl (or_u64 (a := (((c.se).toNat ||| (c.sq).toNat) ||| (c.le).toNat)) (b := (c.tt).toNat) (by have := or_lt64 (a := ((c.se).toNat ||| (c.sq).toNat)) (b := (c.le).toNat) (by have := or_lt64 (a := (c.se).toNat) (b := (c.sq).toNat) (by have := UInt64.toNat_lt (c.se); omega) (by have := UInt64.toNat_lt (c.sq); omega); omega) (by have := UInt64.toNat_lt (c.le); omega); omega) (by have := UInt64.toNat_lt (c.tt); omega)) ?_
     refine WS.eqlN (a := ((((c.se).toNat ||| (c.sq).toNat) ||| (c.le).toNat) ||| (c.tt).toNat)) (b := 0) rfl rfl rfl (fun e40 => ?_) (fun e40 => ?_)
     ·
      refine WS.op rfl rfl (WS.nil [(2, _)] rfl ?_)
      refine WC.ret ?_
      refine ⟨[_], (res_tmp rfl res_nil), ?_⟩
      obtain ⟨z3, z4⟩ := or_zero e40
      obtain ⟨z2, z5⟩ := or_zero z3
      obtain ⟨z1, z6⟩ := or_zero z2
      have e17b := e17
      simp only [List.append_eq_nil_iff] at e17b
      obtain ⟨⟨⟨⟨w1, w2⟩, w3⟩, w4⟩, w5⟩ := e17b
      have w6 : c.ps = [] := List.eq_nil_of_length_eq_zero (by omega)
      have w7 : c.li = 0 := u8_0 e27
      exact ⟨vbt (by unfold OpOnly; obtain ⟨⟩ := c; simp only at *; rw [u64_0 z1, u64_0 z6, u64_0 z5, u64_0 z4, w1, w2, w3, w4, w5, w6, w7]), M3.bare.take 0⟩
     ·
      refine WS.op rfl rfl (WS.nil [(2, _)] rfl ?_)
      refine WC.ret ?_
      refine ⟨[_], (res_tmp rfl res_nil), ?_⟩
      have hno : ¬ OpOnly c := by
        intro q
        obtain ⟨op, se, sq, ky, va, ex, fr, to, li, le, tt, ps⟩ := c
        unfold OpOnly at q
        simp only [Cmd.mk.injEq, true_and] at q
        obtain ⟨q1, q2, q3, q4, q5, q6, q7, q8, q9, q10, q11⟩ := q
        subst q1 q2 q3 q4 q5 q6 q7 q8 q9 q10 q11
        first | exact absurd rfl e17 | (exfalso; simp at e22; done) | exact absurd rfl e27 | (exact absurd (by simp) e40)
      exact ⟨vbf hno, M3.bare.take 0⟩
set_option maxRecDepth 8000 in
theorem WriteF_ran (W : Mem h h [] []) {f : Frm} {V : Value} (A : KPart.Sl h V f.c.ps) (hf : Fit f.c) : Cll tab0 10 [f.val V] h (fun v h2 => v = .string (bs (if mayFB f then encF f else [])) ∧ Mem h h2 [] []) := by
  obtain ⟨P, n, rfl⟩ := A.shape
  have hwc := wrC_lenF hf
  have hwo := wrO_len (c := f.o)
  refine Cll.code rfl rfl ?_
  refine WC.env [(0, _)] rfl ?_
  refine WC.seq ?_
  refine WC.run ?_
  refine WS.box W [_, _, _, _, _, _, _, _, _, _, _, _, _, _, _, _, _, _, _, _, _, _, _, _, _, _, _, _, _, _, _, _, _, _, _, _, _] rfl rfl rfl rfl ?_
  intro p1 h2 M3
  refine WS.op rfl rfl (WS.nil [(1, _)] rfl ?_)
  refine WC.seq ?_
  refine WC.run ?_
  refine WS.op rfl rfl (WS.op rfl rfl (WS.op rfl (op_ld (M3.at 0 rfl) rfl rfl) ?_))
  refine WS.eqlN (a := (f.c.op).toNat) (b := 0) rfl rfl rfl (fun e8 => ?_) (fun e8 => ?_)
  ·
   refine WS.op rfl rfl (WS.op rfl rfl (WS.op rfl (op_lds [_, _, _, _, _, _, _, _, _, _, _, _] (M3.at 0 rfl) rfl (Nat.le_of_ble_eq_true rfl) rfl) ?_))
   refine WS.call rfl rfl rfl (blank_ran M3.here (c := f.c) (A.mono M3.sub) (by assumption)) ?_
   rintro _ h4 ⟨rfl, N5⟩
   have M6 := M3.trans N5
   refine WS.op rfl rfl (WS.op rfl rfl (WS.nil [(1, _), (3, _)] rfl ?_))
   refine WC.seq ?_
   refine WC.run ?_
   refine WS.op rfl rfl (WS.nil [(1, _), (3, _), (4, _)] rfl ?_)
   refine WC.seq ?_
   refine WC.block ?_
   refine WC.seq ?_
   refine WC.run ?_
   refine WS.op rfl rfl (WS.op rfl (op_ld (M6.at 0 rfl) rfl rfl) ?_)
   refine WS.eqlN (a := (f.kd).toNat) (b := 1) rfl rfl rfl (fun e17 => ?_) (fun e17 => ?_)
   ·
    refine WS.op rfl rfl (WS.op rfl rfl (WS.op rfl (op_lds [_, _, _, _, _, _, _, _, _, _, _, _, _, _, _, _] (M6.at 0 rfl) rfl (Nat.le_of_ble_eq_true rfl) rfl) (WS.opV (.agg #[(.int .u8 (0 : Int)), (.int .u8 (0 : Int)), (.int .u8 (0 : Int)), (.int .u8 (0 : Int)), (.int .u8 (0 : Int)), (.int .u8 (0 : Int)), (.int .u8 (0 : Int)), (.int .u8 (0 : Int)), (.int .u8 (0 : Int)), (.int .u8 (0 : Int)), (.int .u8 (0 : Int)), (.int .i64 (0 : Int)), (.int .i64 (0 : Int)), (.int .i64 (0 : Int)), (.int .i64 (0 : Int)), (.int .u8 (0 : Int))]) rfl rfl rfl ?_)))
    refine WS.eqqD (p := f.o = (⟨0, 0, 0, 0, 0, 0, 0, 0, 0, 0, 0, 0, 0, 0, 0, 0⟩ : Oper)) rfl rfl rfl (Oper_eqV f.o (⟨0, 0, 0, 0, 0, 0, 0, 0, 0, 0, 0, 0, 0, 0, 0, 0⟩ : Oper)) (fun e22 => ?_) (fun e22 => ?_)
    ·
     refine WS.op rfl rfl (WS.op rfl rfl (WS.nil [(1, _), (3, _), (4, _), (14, _)] rfl ?_))
     refine WC.condT rfl ?_
     refine WC.run ?_
     refine WS.op rfl rfl (WS.op rfl (op_lds [_, _, _, _, _, _, _, _, _, _, _, _] (M6.at 0 rfl) rfl (Nat.le_of_ble_eq_true rfl) rfl) ?_)
     refine WS.call rfl rfl rfl (Write_ran M6.here (c := f.c) (A.mono M6.sub) (by assumption)) ?_
     rintro _ h7 ⟨rfl, N8⟩
     have M9 := M6.trans N8
     refine WS.op rfl rfl (WS.nil [(1, _), (4, _)] rfl ?_)
     refine WC.seq ?_
     refine WC.seq ?_
     refine WC.run ?_
     refine WS.op rfl rfl ?_
     refine WS.seql (l := (if mayB f.c then encC f.c else [])) (m := []) rfl rfl rfl (fun e38 => ?_) (fun e38 => ?_)
     ·
      refine WS.nil [(1, _), (4, _), (38, _)] rfl ?_
      refine WC.condT rfl ?_
      refine WC.seq ?_
      refine WC.run ?_
      refine WS.op rfl rfl (WS.nil [(2, _)] rfl ?_)
      refine WC.ret ?_
      refine ⟨[_], (res_tmp rfl res_nil), ?_⟩
      have hn : ¬ MayF f := by
        rintro (⟨q1, q2, q3⟩ | ⟨q1, q2, q3⟩)
        · first
          | omega
          | exact absurd q2 (by assumption)
          | exact wrC_nil e38 q3
        · first
          | omega
          | (rw [q2] at e8; exact absurd rfl e8)
          | exact absurd (show OpOnly f.c by rw [q2]; rfl) (of_decide_eq_false (by assumption))
          | exact wrO_nil e38 q3
      exact ⟨by rw [if_neg (show ¬ mayFB f = true from fun q => hn (of_decide_eq_true q))]; rfl, M9.bare.take 0⟩
     ·
      refine WS.nil [(1, _), (4, _), (38, _)] rfl ?_
      refine WC.condF rfl ?_
      refine WC.skip ?_
      refine WC.seq ?_
      refine WC.draw M9 [2] rfl ?_
      intro rb10 h11 M12
      refine WS.op rfl rfl (WS.op rfl (op_ld (M12.at 0 rfl) rfl rfl) (WS.op rfl rfl (WS.opV (.slice (some ⟨p1, 1, none⟩) 8 17) rfl rfl rfl (WS.op rfl (op_cvB (l := [f.t0, f.t1, f.t2, f.t3, f.t4, f.t5, f.t6, f.t7]) (M12.at 0 rfl) rfl rfl (Nat.le_of_ble_eq_true rfl) rfl) (WS.op rfl rfl ?_)))))
      refine WS.bslA M12 [_] 0 rfl rfl rfl rfl rfl ?_
      intro h14 M15
      refine WS.opR rfl rfl (op_cvB (l := [f.kd]) (M15.at 0 rfl) rfl rfl (Nat.le_of_ble_eq_true rfl) rfl) (WS.op rfl (op_sadd (l := [f.kd]) (m := [f.t0, f.t1, f.t2, f.t3, f.t4, f.t5, f.t6, f.t7]) rfl rfl (by first | omega | (simp only [List.length_append, List.length_cons, List.length_nil]; omega))) (WS.op rfl (op_sadd (l := ([f.kd] ++ [f.t0, f.t1, f.t2, f.t3, f.t4, f.t5, f.t6, f.t7])) (m := (if mayB f.c then encC f.c else [])) rfl rfl (by first | omega | (simp only [List.length_append, List.length_cons, List.length_nil]; omega))) (WS.op rfl rfl (WS.nil [(2, _)] rfl ?_))))
      refine WC.ret ?_
      refine ⟨[_], (res_tmp rfl res_nil), ?_⟩
      have hM := wrC_t e38
      have hF : mayFB f = true := decide_eq_true (.inl ⟨by omega, by assumption, of_decide_eq_true hM⟩)
      exact ⟨by rw [if_pos hF]; unfold encF; rw [tailF_1 (by omega), if_pos hM]; rfl, M15.bare.bare.take 0⟩
    ·
     refine WS.op rfl rfl (WS.op rfl rfl (WS.nil [(1, _), (3, _), (4, _), (14, _)] rfl ?_))
     refine WC.condF rfl ?_
     refine WC.seq ?_
     refine WC.run ?_
     refine WS.op rfl rfl (WS.op rfl (op_ld (M6.at 0 rfl) rfl rfl) ?_)
     refine WS.eqlN (a := (f.kd).toNat) (b := 2) rfl rfl rfl (fun e30 => ?_) (fun e30 => ?_)
     ·
      refine WS.op rfl rfl (WS.op rfl rfl (WS.op rfl rfl (WS.op rfl rfl (WS.nil [(1, _), (4, _), (27, _)] rfl ?_))))
      cases hb1 : (decide (OpOnly f.c))
      ·
       refine WC.condF rfl ?_
       refine WC.skip ?_
       refine WC.seq ?_
       refine WC.seq ?_
       refine WC.run ?_
       refine WS.op rfl rfl ?_
       refine WS.seql (l := []) (m := []) rfl rfl rfl (fun e38 => ?_) (fun e38 => ?_)
       ·
        refine WS.nil [(1, _), (4, _), (38, _)] rfl ?_
        refine WC.condT rfl ?_
        refine WC.seq ?_
        refine WC.run ?_
        refine WS.op rfl rfl (WS.nil [(2, _)] rfl ?_)
        refine WC.ret ?_
        refine ⟨[_], (res_tmp rfl res_nil), ?_⟩
        have hn : ¬ MayF f := by
          rintro (⟨q1, q2, q3⟩ | ⟨q1, q2, q3⟩)
          · first
            | omega
            | exact absurd q2 (by assumption)
            | exact wrC_nil e38 q3
          · first
            | omega
            | (rw [q2] at e8; exact absurd rfl e8)
            | exact absurd (show OpOnly f.c by rw [q2]; rfl) (of_decide_eq_false (by assumption))
            | exact wrO_nil e38 q3
        exact ⟨by rw [if_neg (show ¬ mayFB f = true from fun q => hn (of_decide_eq_true q))]; rfl, M6.bare.take 0⟩
       ·
        refine WS.nil [(1, _), (4, _), (38, _)] rfl ?_
        refine WC.condF rfl ?_
        refine WC.skip ?_
        refine WC.seq ?_
        refine WC.draw M6 [2] rfl ?_
        intro rb16 h17 M18
        refine WS.op rfl rfl (WS.op rfl (op_ld (M18.at 0 rfl) rfl rfl) (WS.op rfl rfl (WS.opV (.slice (some ⟨p1, 1, none⟩) 8 17) rfl rfl rfl (WS.op rfl (op_cvB (l := [f.t0, f.t1, f.t2, f.t3, f.t4, f.t5, f.t6, f.t7]) (M18.at 0 rfl) rfl rfl (Nat.le_of_ble_eq_true rfl) rfl) (WS.op rfl rfl ?_)))))
        refine WS.bslA M18 [_] 0 rfl rfl rfl rfl rfl ?_
        intro h20 M21
        refine WS.opR rfl rfl (op_cvB (l := [f.kd]) (M21.at 0 rfl) rfl rfl (Nat.le_of_ble_eq_true rfl) rfl) (WS.op rfl (op_sadd (l := [f.kd]) (m := [f.t0, f.t1, f.t2, f.t3, f.t4, f.t5, f.t6, f.t7]) rfl rfl (by first | omega | (simp only [List.length_append, List.length_cons, List.length_nil]; omega))) (WS.op rfl (op_sadd (l := ([f.kd] ++ [f.t0, f.t1, f.t2, f.t3, f.t4, f.t5, f.t6, f.t7])) (m := []) rfl rfl (by first | omega | (simp only [List.length_append, List.length_cons, List.length_nil]; omega))) (WS.op rfl rfl (WS.nil [(2, _)] rfl ?_))))
        refine WC.ret ?_
        refine ⟨[_], (res_tmp rfl res_nil), ?_⟩
        exact absurd rfl e38
      ·
       refine WC.condT rfl ?_
       refine WC.run ?_
       refine WS.op rfl rfl (WS.op rfl (op_lds [_, _, _, _, _, _, _, _, _, _, _, _, _, _, _, _] (M6.at 0 rfl) rfl (Nat.le_of_ble_eq_true rfl) rfl) ?_)
       refine WS.call rfl rfl rfl (WriteO_ran M6.here (o := f.o)) ?_
       rintro _ h22 ⟨rfl, N23⟩
       have M24 := M6.trans N23
       refine WS.op rfl rfl (WS.nil [(1, _), (4, _)] rfl ?_)
       refine WC.seq ?_
       refine WC.seq ?_
       refine WC.run ?_
       refine WS.op rfl rfl ?_
       refine WS.seql (l := (if mayOB f.o then encO f.o else [])) (m := []) rfl rfl rfl (fun e38 => ?_) (fun e38 => ?_)
       ·
        refine WS.nil [(1, _), (4, _), (38, _)] rfl ?_
        refine WC.condT rfl ?_
        refine WC.seq ?_
        refine WC.run ?_
        refine WS.op rfl rfl (WS.nil [(2, _)] rfl ?_)
        refine WC.ret ?_
        refine ⟨[_], (res_tmp rfl res_nil), ?_⟩
        have hn : ¬ MayF f := by
          rintro (⟨q1, q2, q3⟩ | ⟨q1, q2, q3⟩)
          · first
            | omega
            | exact absurd q2 (by assumption)
            | exact wrC_nil e38 q3
          · first
            | omega
            | (rw [q2] at e8; exact absurd rfl e8)
            | exact absurd (show OpOnly f.c by rw [q2]; rfl) (of_decide_eq_false (by assumption))
            | exact wrO_nil e38 q3
        exact ⟨by rw [if_neg (show ¬ mayFB f = true from fun q => hn (of_decide_eq_true q))]; rfl, M24.bare.take 0⟩
       ·
        refine WS.nil [(1, _), (4, _), (38, _)] rfl ?_
        refine WC.condF rfl ?_
        refine WC.skip ?_
        refine WC.seq ?_
        refine WC.draw M24 [2] rfl ?_
        intro rb25 h26 M27
        refine WS.op rfl rfl (WS.op rfl (op_ld (M27.at 0 rfl) rfl rfl) (WS.op rfl rfl (WS.opV (.slice (some ⟨p1, 1, none⟩) 8 17) rfl rfl rfl (WS.op rfl (op_cvB (l := [f.t0, f.t1, f.t2, f.t3, f.t4, f.t5, f.t6, f.t7]) (M27.at 0 rfl) rfl rfl (Nat.le_of_ble_eq_true rfl) rfl) (WS.op rfl rfl ?_)))))
        refine WS.bslA M27 [_] 0 rfl rfl rfl rfl rfl ?_
        intro h29 M30
        refine WS.opR rfl rfl (op_cvB (l := [f.kd]) (M30.at 0 rfl) rfl rfl (Nat.le_of_ble_eq_true rfl) rfl) (WS.op rfl (op_sadd (l := [f.kd]) (m := [f.t0, f.t1, f.t2, f.t3, f.t4, f.t5, f.t6, f.t7]) rfl rfl (by first | omega | (simp only [List.length_append, List.length_cons, List.length_nil]; omega))) (WS.op rfl (op_sadd (l := ([f.kd] ++ [f.t0, f.t1, f.t2, f.t3, f.t4, f.t5, f.t6, f.t7])) (m := (if mayOB f.o then encO f.o else [])) rfl rfl (by first | omega | (simp only [List.length_append, List.length_cons, List.length_nil]; omega))) (WS.op rfl rfl (WS.nil [(2, _)] rfl ?_))))
        refine WC.ret ?_
        refine ⟨[_], (res_tmp rfl res_nil), ?_⟩
        have hM := wrO_t e38
        have hO : OpOnly f.c := of_decide_eq_true (by assumption)
        have hZ : f.c = zeroC := by
          rw [show f.c = _ from hO, show f.c.op = 0 from u8_0 e8]; rfl
        have hF : mayFB f = true := decide_eq_true (.inr ⟨by omega, hZ, of_decide_eq_true hM⟩)
        exact ⟨by rw [if_pos hF]; unfold encF; rw [tailF_2 (by omega), if_pos hM]; rfl, M30.bare.bare.take 0⟩
     ·
      refine WS.op rfl rfl (WS.off rfl (WS.op rfl rfl (WS.op rfl rfl (WS.nil [(1, _), (4, _), (27, _)] rfl ?_))))
      refine WC.condF rfl ?_
      refine WC.skip ?_
      refine WC.seq ?_
      refine WC.seq ?_
      refine WC.run ?_
      refine WS.op rfl rfl ?_
      refine WS.seql (l := []) (m := []) rfl rfl rfl (fun e38 => ?_) (fun e38 => ?_)
      ·
       refine WS.nil [(1, _), (4, _), (38, _)] rfl ?_
       refine WC.condT rfl ?_
       refine WC.seq ?_
       refine WC.run ?_
       refine WS.op rfl rfl (WS.nil [(2, _)] rfl ?_)
       refine WC.ret ?_
       refine ⟨[_], (res_tmp rfl res_nil), ?_⟩
       have hn : ¬ MayF f := by
         rintro (⟨q1, q2, q3⟩ | ⟨q1, q2, q3⟩)
         · first
           | omega
           | exact absurd q2 (by assumption)
           | exact wrC_nil e38 q3
         · first
           | omega
           | (rw [q2] at e8; exact absurd rfl e8)
           | exact absurd (show OpOnly f.c by rw [q2]; rfl) (of_decide_eq_false (by assumption))
           | exact wrO_nil e38 q3
       exact ⟨by rw [if_neg (show ¬ mayFB f = true from fun q => hn (of_decide_eq_true q))]; rfl, M6.bare.take 0⟩
      ·
       refine WS.nil [(1, _), (4, _), (38, _)] rfl ?_
       refine WC.condF rfl ?_
       refine WC.skip ?_
       refine WC.seq ?_
       refine WC.draw M6 [2] rfl ?_
       intro rb31 h32 M33
       refine WS.op rfl rfl (WS.op rfl (op_ld (M33.at 0 rfl) rfl rfl) (WS.op rfl rfl (WS.opV (.slice (some ⟨p1, 1, none⟩) 8 17) rfl rfl rfl (WS.op rfl (op_cvB (l := [f.t0, f.t1, f.t2, f.t3, f.t4, f.t5, f.t6, f.t7]) (M33.at 0 rfl) rfl rfl (Nat.le_of_ble_eq_true rfl) rfl) (WS.op rfl rfl ?_)))))
       refine WS.bslA M33 [_] 0 rfl rfl rfl rfl rfl ?_
       intro h35 M36
       refine WS.opR rfl rfl (op_cvB (l := [f.kd]) (M36.at 0 rfl) rfl rfl (Nat.le_of_ble_eq_true rfl) rfl) (WS.op rfl (op_sadd (l := [f.kd]) (m := [f.t0, f.t1, f.t2, f.t3, f.t4, f.t5, f.t6, f.t7]) rfl rfl (by first | omega | (simp only [List.length_append, List.length_cons, List.length_nil]; omega))) (WS.op rfl (op_sadd (l := ([f.kd] ++ [f.t0, f.t1, f.t2, f.t3, f.t4, f.t5, f.t6, f.t7])) (m := []) rfl rfl (by first | omega | (simp only [List.length_append, List.length_cons, List.length_nil]; omega))) (WS.op rfl rfl (WS.nil [(2, _)] rfl ?_))))
       refine WC.ret ?_
       refine ⟨[_], (res_tmp rfl res_nil), ?_⟩
       exact absurd rfl e38
   ·
    refine WS.op rfl rfl (WS.off rfl (WS.off rfl (WS.off rfl (WS.off rfl (WS.op rfl rfl (WS.op rfl rfl (WS.nil [(1, _), (3, _), (4, _), (14, _)] rfl ?_)))))))
    refine WC.condF rfl ?_
    refine WC.seq ?_
    refine WC.run ?_
    refine WS.op rfl rfl (WS.op rfl (op_ld (M6.at 0 rfl) rfl rfl) ?_)
    refine WS.eqlN (a := (f.kd).toNat) (b := 2) rfl rfl rfl (fun e30 => ?_) (fun e30 => ?_)
    ·
     refine WS.op rfl rfl (WS.op rfl rfl (WS.op rfl rfl (WS.op rfl rfl (WS.nil [(1, _), (4, _), (27, _)] rfl ?_))))
     cases hb1 : (decide (OpOnly f.c))
     ·
      refine WC.condF rfl ?_
      refine WC.skip ?_
      refine WC.seq ?_
      refine WC.seq ?_
      refine WC.run ?_
      refine WS.op rfl rfl ?_
      refine WS.seql (l := []) (m := []) rfl rfl rfl (fun e38 => ?_) (fun e38 => ?_)
      ·
       refine WS.nil [(1, _), (4, _), (38, _)] rfl ?_
       refine WC.condT rfl ?_
       refine WC.seq ?_
       refine WC.run ?_
       refine WS.op rfl rfl (WS.nil [(2, _)] rfl ?_)
       refine WC.ret ?_
       refine ⟨[_], (res_tmp rfl res_nil), ?_⟩
       have hn : ¬ MayF f := by
         rintro (⟨q1, q2, q3⟩ | ⟨q1, q2, q3⟩)
         · first
           | omega
           | exact absurd q2 (by assumption)
           | exact wrC_nil e38 q3
         · first
           | omega
           | (rw [q2] at e8; exact absurd rfl e8)
           | exact absurd (show OpOnly f.c by rw [q2]; rfl) (of_decide_eq_false (by assumption))
           | exact wrO_nil e38 q3
       exact ⟨by rw [if_neg (show ¬ mayFB f = true from fun q => hn (of_decide_eq_true q))]; rfl, M6.bare.take 0⟩
      ·
       refine WS.nil [(1, _), (4, _), (38, _)] rfl ?_
       refine WC.condF rfl ?_
       refine WC.skip ?_
       refine WC.seq ?_
       refine WC.draw M6 [2] rfl ?_
       intro rb37 h38 M39
       refine WS.op rfl rfl (WS.op rfl (op_ld (M39.at 0 rfl) rfl rfl) (WS.op rfl rfl (WS.opV (.slice (some ⟨p1, 1, none⟩) 8 17) rfl rfl rfl (WS.op rfl (op_cvB (l := [f.t0, f.t1, f.t2, f.t3, f.t4, f.t5, f.t6, f.t7]) (M39.at 0 rfl) rfl rfl (Nat.le_of_ble_eq_true rfl) rfl) (WS.op rfl rfl ?_)))))
       refine WS.bslA M39 [_] 0 rfl rfl rfl rfl rfl ?_
       intro h41 M42
       refine WS.opR rfl rfl (op_cvB (l := [f.kd]) (M42.at 0 rfl) rfl rfl (Nat.le_of_ble_eq_true rfl) rfl) (WS.op rfl (op_sadd (l := [f.kd]) (m := [f.t0, f.t1, f.t2, f.t3, f.t4, f.t5, f.t6, f.t7]) rfl rfl (by first | omega | (simp only [List.length_append, List.length_cons, List.length_nil]; omega))) (WS.op rfl (op_sadd (l := ([f.kd] ++ [f.t0, f.t1, f.t2, f.t3, f.t4, f.t5, f.t6, f.t7])) (m := []) rfl rfl (by first | omega | (simp only [List.length_append, List.length_cons, List.length_nil]; omega))) (WS.op rfl rfl (WS.nil [(2, _)] rfl ?_))))
       refine WC.ret ?_
       refine ⟨[_], (res_tmp rfl res_nil), ?_⟩
       exact absurd rfl e38
     ·
      refine WC.condT rfl ?_
      refine WC.run ?_
      refine WS.op rfl rfl (WS.op rfl (op_lds [_, _, _, _, _, _, _, _, _, _, _, _, _, _, _, _] (M6.at 0 rfl) rfl (Nat.le_of_ble_eq_true rfl) rfl) ?_)
      refine WS.call rfl rfl rfl (WriteO_ran M6.here (o := f.o)) ?_
      rintro _ h43 ⟨rfl, N44⟩
      have M45 := M6.trans N44
      refine WS.op rfl rfl (WS.nil [(1, _), (4, _)] rfl ?_)
      refine WC.seq ?_
      refine WC.seq ?_
      refine WC.run ?_
      refine WS.op rfl rfl ?_
      refine WS.seql (l := (if mayOB f.o then encO f.o else [])) (m := []) rfl rfl rfl (fun e38 => ?_) (fun e38 => ?_)
      ·
       refine WS.nil [(1, _), (4, _), (38, _)] rfl ?_
       refine WC.condT rfl ?_
       refine WC.seq ?_
       refine WC.run ?_
       refine WS.op rfl rfl (WS.nil [(2, _)] rfl ?_)
       refine WC.ret ?_
       refine ⟨[_], (res_tmp rfl res_nil), ?_⟩
       have hn : ¬ MayF f := by
         rintro (⟨q1, q2, q3⟩ | ⟨q1, q2, q3⟩)
         · first
           | omega
           | exact absurd q2 (by assumption)
           | exact wrC_nil e38 q3
         · first
           | omega
           | (rw [q2] at e8; exact absurd rfl e8)
           | exact absurd (show OpOnly f.c by rw [q2]; rfl) (of_decide_eq_false (by assumption))
           | exact wrO_nil e38 q3
       exact ⟨by rw [if_neg (show ¬ mayFB f = true from fun q => hn (of_decide_eq_true q))]; rfl, M45.bare.take 0⟩
      ·
       refine WS.nil [(1, _), (4, _), (38, _)] rfl ?_
       refine WC.condF rfl ?_
       refine WC.skip ?_
       refine WC.seq ?_
       refine WC.draw M45 [2] rfl ?_
       intro rb46 h47 M48
       refine WS.op rfl rfl (WS.op rfl (op_ld (M48.at 0 rfl) rfl rfl) (WS.op rfl rfl (WS.opV (.slice (some ⟨p1, 1, none⟩) 8 17) rfl rfl rfl (WS.op rfl (op_cvB (l := [f.t0, f.t1, f.t2, f.t3, f.t4, f.t5, f.t6, f.t7]) (M48.at 0 rfl) rfl rfl (Nat.le_of_ble_eq_true rfl) rfl) (WS.op rfl rfl ?_)))))
       refine WS.bslA M48 [_] 0 rfl rfl rfl rfl rfl ?_
       intro h50 M51
       refine WS.opR rfl rfl (op_cvB (l := [f.kd]) (M51.at 0 rfl) rfl rfl (Nat.le_of_ble_eq_true rfl) rfl) (WS.op rfl (op_sadd (l := [f.kd]) (m := [f.t0, f.t1, f.t2, f.t3, f.t4, f.t5, f.t6, f.t7]) rfl rfl (by first | omega | (simp only [List.length_append, List.length_cons, List.length_nil]; omega))) (WS.op rfl (op_sadd (l := ([f.kd] ++ [f.t0, f.t1, f.t2, f.t3, f.t4, f.t5, f.t6, f.t7])) (m := (if mayOB f.o then encO f.o else [])) rfl rfl (by first | omega | (simp only [List.length_append, List.length_cons, List.length_nil]; omega))) (WS.op rfl rfl (WS.nil [(2, _)] rfl ?_))))
       refine WC.ret ?_
       refine ⟨[_], (res_tmp rfl res_nil), ?_⟩
       have hM := wrO_t e38
       have hO : OpOnly f.c := of_decide_eq_true (by assumption)
       have hZ : f.c = zeroC := by
         rw [show f.c = _ from hO, show f.c.op = 0 from u8_0 e8]; rfl
       have hF : mayFB f = true := decide_eq_true (.inr ⟨by omega, hZ, of_decide_eq_true hM⟩)
       exact ⟨by rw [if_pos hF]; unfold encF; rw [tailF_2 (by omega), if_pos hM]; rfl, M51.bare.bare.take 0⟩
    ·
     refine WS.op rfl rfl (WS.off rfl (WS.op rfl rfl (WS.op rfl rfl (WS.nil [(1, _), (4, _), (27, _)] rfl ?_))))
     refine WC.condF rfl ?_
     refine WC.skip ?_
     refine WC.seq ?_
     refine WC.seq ?_
     refine WC.run ?_
     refine WS.op rfl rfl ?_
     refine WS.seql (l := []) (m := []) rfl rfl rfl (fun e38 => ?_) (fun e38 => ?_)
     ·
      refine WS.nil [(1, _), (4, _), (38, _)] rfl ?_
      refine WC.condT rfl ?_
      refine WC.seq ?_
      refine WC.run ?_
      refine WS.op rfl rfl (WS.nil [(2, _)] rfl ?_)
      refine WC.ret ?_
      refine ⟨[_], (res_tmp rfl res_nil), ?_⟩
      have hn : ¬ MayF f := by
        rintro (⟨q1, q2, q3⟩ | ⟨q1, q2, q3⟩)
        · first
          | omega
          | exact absurd q2 (by assumption)
          | exact wrC_nil e38 q3
        · first
          | omega
          | (rw [q2] at e8; exact absurd rfl e8)
          | exact absurd (show OpOnly f.c by rw [q2]; rfl) (of_decide_eq_false (by assumption))
          | exact wrO_nil e38 q3
      exact ⟨by rw [if_neg (show ¬ mayFB f = true from fun q => hn (of_decide_eq_true q))]; rfl, M6.bare.take 0⟩
     ·
      refine WS.nil [(1, _), (4, _), (38, _)] rfl ?_
      refine WC.condF rfl ?_
      refine WC.skip ?_
      refine WC.seq ?_
      refine WC.draw M6 [2] rfl ?_
      intro rb52 h53 M54
      refine WS.op rfl rfl (WS.op rfl (op_ld (M54.at 0 rfl) rfl rfl) (WS.op rfl rfl (WS.opV (.slice (some ⟨p1, 1, none⟩) 8 17) rfl rfl rfl (WS.op rfl (op_cvB (l := [f.t0, f.t1, f.t2, f.t3, f.t4, f.t5, f.t6, f.t7]) (M54.at 0 rfl) rfl rfl (Nat.le_of_ble_eq_true rfl) rfl) (WS.op rfl rfl ?_)))))
      refine WS.bslA M54 [_] 0 rfl rfl rfl rfl rfl ?_
      intro h56 M57
      refine WS.opR rfl rfl (op_cvB (l := [f.kd]) (M57.at 0 rfl) rfl rfl (Nat.le_of_ble_eq_true rfl) rfl) (WS.op rfl (op_sadd (l := [f.kd]) (m := [f.t0, f.t1, f.t2, f.t3, f.t4, f.t5, f.t6, f.t7]) rfl rfl (by first | omega | (simp only [List.length_append, List.length_cons, List.length_nil]; omega))) (WS.op rfl (op_sadd (l := ([f.kd] ++ [f.t0, f.t1, f.t2, f.t3, f.t4, f.t5, f.t6, f.t7])) (m := []) rfl rfl (by first | omega | (simp only [List.length_append, List.length_cons, List.length_nil]; omega))) (WS.op rfl rfl (WS.nil [(2, _)] rfl ?_))))
      refine WC.ret ?_
      refine ⟨[_], (res_tmp rfl res_nil), ?_⟩
      exact absurd rfl e38
  ·
   refine WS.op rfl rfl (WS.off rfl (WS.off rfl (WS.offC rfl (WS.op rfl rfl (WS.op rfl rfl (WS.nil [(1, _), (3, _)] rfl ?_))))))
   refine WC.seq ?_
   refine WC.run ?_
   refine WS.op rfl rfl (WS.nil [(1, _), (3, _), (4, _)] rfl ?_)
   refine WC.seq ?_
   refine WC.block ?_
   refine WC.seq ?_
   refine WC.run ?_
   refine WS.op rfl rfl (WS.op rfl (op_ld (M3.at 0 rfl) rfl rfl) ?_)
   refine WS.eqlN (a := (f.kd).toNat) (b := 1) rfl rfl rfl (fun e17 => ?_) (fun e17 => ?_)
   ·
    refine WS.op rfl rfl (WS.op rfl rfl (WS.op rfl (op_lds [_, _, _, _, _, _, _, _, _, _, _, _, _, _, _, _] (M3.at 0 rfl) rfl (Nat.le_of_ble_eq_true rfl) rfl) (WS.opV (.agg #[(.int .u8 (0 : Int)), (.int .u8 (0 : Int)), (.int .u8 (0 : Int)), (.int .u8 (0 : Int)), (.int .u8 (0 : Int)), (.int .u8 (0 : Int)), (.int .u8 (0 : Int)), (.int .u8 (0 : Int)), (.int .u8 (0 : Int)), (.int .u8 (0 : Int)), (.int .u8 (0 : Int)), (.int .i64 (0 : Int)), (.int .i64 (0 : Int)), (.int .i64 (0 : Int)), (.int .i64 (0 : Int)), (.int .u8 (0 : Int))]) rfl rfl rfl ?_)))
    refine WS.eqqD (p := f.o = (⟨0, 0, 0, 0, 0, 0, 0, 0, 0, 0, 0, 0, 0, 0, 0, 0⟩ : Oper)) rfl rfl rfl (Oper_eqV f.o (⟨0, 0, 0, 0, 0, 0, 0, 0, 0, 0, 0, 0, 0, 0, 0, 0⟩ : Oper)) (fun e22 => ?_) (fun e22 => ?_)
    ·
     refine WS.op rfl rfl (WS.op rfl rfl (WS.nil [(1, _), (3, _), (4, _), (14, _)] rfl ?_))
     refine WC.condT rfl ?_
     refine WC.run ?_
     refine WS.op rfl rfl (WS.op rfl (op_lds [_, _, _, _, _, _, _, _, _, _, _, _] (M3.at 0 rfl) rfl (Nat.le_of_ble_eq_true rfl) rfl) ?_)
     refine WS.call rfl rfl rfl (Write_ran M3.here (c := f.c) (A.mono M3.sub) (by assumption)) ?_
     rintro _ h58 ⟨rfl, N59⟩
     have M60 := M3.trans N59
     refine WS.op rfl rfl (WS.nil [(1, _), (4, _)] rfl ?_)
     refine WC.seq ?_
     refine WC.seq ?_
     refine WC.run ?_
     refine WS.op rfl rfl ?_
     refine WS.seql (l := (if mayB f.c then encC f.c else [])) (m := []) rfl rfl rfl (fun e38 => ?_) (fun e38 => ?_)
     ·
      refine WS.nil [(1, _), (4, _), (38, _)] rfl ?_
      refine WC.condT rfl ?_
      refine WC.seq ?_
      refine WC.run ?_
      refine WS.op rfl rfl (WS.nil [(2, _)] rfl ?_)
      refine WC.ret ?_
      refine ⟨[_], (res_tmp rfl res_nil), ?_⟩
      have hn : ¬ MayF f := by
        rintro (⟨q1, q2, q3⟩ | ⟨q1, q2, q3⟩)
        · first
          | omega
          | exact absurd q2 (by assumption)
          | exact wrC_nil e38 q3
        · first
          | omega
          | (rw [q2] at e8; exact absurd rfl e8)
          | exact absurd (show OpOnly f.c by rw [q2]; rfl) (of_decide_eq_false (by assumption))
          | exact wrO_nil e38 q3
      exact ⟨by rw [if_neg (show ¬ mayFB f = true from fun q => hn (of_decide_eq_true q))]; rfl, M60.bare.take 0⟩
     ·
      refine WS.nil [(1, _), (4, _), (38, _)] rfl ?_
      refine WC.condF rfl ?_
      refine WC.skip ?_
      refine WC.seq ?_
      refine WC.draw M60 [2] rfl ?_
      intro rb61 h62 M63
      refine WS.op rfl rfl (WS.op rfl (op_ld (M63.at 0 rfl) rfl rfl) (WS.op rfl rfl (WS.opV (.slice (some ⟨p1, 1, none⟩) 8 17) rfl rfl rfl (WS.op rfl (op_cvB (l := [f.t0, f.t1, f.t2, f.t3, f.t4, f.t5, f.t6, f.t7]) (M63.at 0 rfl) rfl rfl (Nat.le_of_ble_eq_true rfl) rfl) (WS.op rfl rfl ?_)))))
      refine WS.bslA M63 [_] 0 rfl rfl rfl rfl rfl ?_
      intro h65 M66
      refine WS.opR rfl rfl (op_cvB (l := [f.kd]) (M66.at 0 rfl) rfl rfl (Nat.le_of_ble_eq_true rfl) rfl) (WS.op rfl (op_sadd (l := [f.kd]) (m := [f.t0, f.t1, f.t2, f.t3, f.t4, f.t5, f.t6, f.t7]) rfl rfl (by first | omega | (simp only [List.length_append, List.length_cons, List.length_nil]; omega))) (WS.op rfl (op_sadd (l := ([f.kd] ++ [f.t0, f.t1, f.t2, f.t3, f.t4, f.t5, f.t6, f.t7])) (m := (if mayB f.c then encC f.c else [])) rfl rfl (by first | omega | (simp only [List.length_append, List.length_cons, List.length_nil]; omega))) (WS.op rfl rfl (WS.nil [(2, _)] rfl ?_))))
      refine WC.ret ?_
      refine ⟨[_], (res_tmp rfl res_nil), ?_⟩
      have hM := wrC_t e38
      have hF : mayFB f = true := decide_eq_true (.inl ⟨by omega, by assumption, of_decide_eq_true hM⟩)
      exact ⟨by rw [if_pos hF]; unfold encF; rw [tailF_1 (by omega), if_pos hM]; rfl, M66.bare.bare.take 0⟩
    ·
     refine WS.op rfl rfl (WS.op rfl rfl (WS.nil [(1, _), (3, _), (4, _), (14, _)] rfl ?_))
     refine WC.condF rfl ?_
     refine WC.seq ?_
     refine WC.run ?_
     refine WS.op rfl rfl (WS.op rfl (op_ld (M3.at 0 rfl) rfl rfl) ?_)
     refine WS.eqlN (a := (f.kd).toNat) (b := 2) rfl rfl rfl (fun e30 => ?_) (fun e30 => ?_)
     ·
      refine WS.op rfl rfl (WS.op rfl rfl (WS.op rfl rfl (WS.op rfl rfl (WS.nil [(1, _), (4, _), (27, _)] rfl ?_))))
      refine WC.condF rfl ?_
      refine WC.skip ?_
      refine WC.seq ?_
      refine WC.seq ?_
      refine WC.run ?_
      refine WS.op rfl rfl ?_
      refine WS.seql (l := []) (m := []) rfl rfl rfl (fun e38 => ?_) (fun e38 => ?_)
      ·
       refine WS.nil [(1, _), (4, _), (38, _)] rfl ?_
       refine WC.condT rfl ?_
       refine WC.seq ?_
       refine WC.run ?_
       refine WS.op rfl rfl (WS.nil [(2, _)] rfl ?_)
       refine WC.ret ?_
       refine ⟨[_], (res_tmp rfl res_nil), ?_⟩
       have hn : ¬ MayF f := by
         rintro (⟨q1, q2, q3⟩ | ⟨q1, q2, q3⟩)
         · first
           | omega
           | exact absurd q2 (by assumption)
           | exact wrC_nil e38 q3
         · first
           | omega
           | (rw [q2] at e8; exact absurd rfl e8)
           | exact absurd (show OpOnly f.c by rw [q2]; rfl) (of_decide_eq_false (by assumption))
           | exact wrO_nil e38 q3
       exact ⟨by rw [if_neg (show ¬ mayFB f = true from fun q => hn (of_decide_eq_true q))]; rfl, M3.bare.take 0⟩
      ·
       refine WS.nil [(1, _), (4, _), (38, _)] rfl ?_
       refine WC.condF rfl ?_
       refine WC.skip ?_
       refine WC.seq ?_
       refine WC.draw M3 [2] rfl ?_
       intro rb67 h68 M69
       refine WS.op rfl rfl (WS.op rfl (op_ld (M69.at 0 rfl) rfl rfl) (WS.op rfl rfl (WS.opV (.slice (some ⟨p1, 1, none⟩) 8 17) rfl rfl rfl (WS.op rfl (op_cvB (l := [f.t0, f.t1, f.t2, f.t3, f.t4, f.t5, f.t6, f.t7]) (M69.at 0 rfl) rfl rfl (Nat.le_of_ble_eq_true rfl) rfl) (WS.op rfl rfl ?_)))))
       refine WS.bslA M69 [_] 0 rfl rfl rfl rfl rfl ?_
       intro h71 M72
       refine WS.opR rfl rfl (op_cvB (l := [f.kd]) (M72.at 0 rfl) rfl rfl (Nat.le_of_ble_eq_true rfl) rfl) (WS.op rfl (op_sadd (l := [f.kd]) (m := [f.t0, f.t1, f.t2, f.t3, f.t4, f.t5, f.t6, f.t7]) rfl rfl (by first | omega | (simp only [List.length_append, List.length_cons, List.length_nil]; omega))) (WS.op rfl (op_sadd (l := ([f.kd] ++ [f.t0, f.t1, f.t2, f.t3, f.t4, f.t5, f.t6, f.t7])) (m := []) rfl rfl (by first | omega | (simp only [List.length_append, List.length_cons, List.length_nil]; omega))) (WS.op rfl rfl (WS.nil [(2, _)] rfl ?_))))
       refine WC.ret ?_
       refine ⟨[_], (res_tmp rfl res_nil), ?_⟩
       exact absurd rfl e38
     ·
      refine WS.op rfl rfl (WS.off rfl (WS.op rfl rfl (WS.op rfl rfl (WS.nil [(1, _), (4, _), (27, _)] rfl ?_))))
      refine WC.condF rfl ?_
      refine WC.skip ?_
      refine WC.seq ?_
      refine WC.seq ?_
      refine WC.run ?_
      refine WS.op rfl rfl ?_
      refine WS.seql (l := []) (m := []) rfl rfl rfl (fun e38 => ?_) (fun e38 => ?_)
      ·
       refine WS.nil [(1, _), (4, _), (38, _)] rfl ?_
       refine WC.condT rfl ?_
       refine WC.seq ?_
       refine WC.run ?_
       refine WS.op rfl rfl (WS.nil [(2, _)] rfl ?_)
       refine WC.ret ?_
       refine ⟨[_], (res_tmp rfl res_nil), ?_⟩
       have hn : ¬ MayF f := by
         rintro (⟨q1, q2, q3⟩ | ⟨q1, q2, q3⟩)
         · first
           | omega
           | exact absurd q2 (by assumption)
           | exact wrC_nil e38 q3
         · first
           | omega
           | (rw [q2] at e8; exact absurd rfl e8)
           | exact absurd (show OpOnly f.c by rw [q2]; rfl) (of_decide_eq_false (by assumption))
           | exact wrO_nil e38 q3
       exact ⟨by rw [if_neg (show ¬ mayFB f = true from fun q => hn (of_decide_eq_true q))]; rfl, M3.bare.take 0⟩
      ·
       refine WS.nil [(1, _), (4, _), (38, _)] rfl ?_
       refine WC.condF rfl ?_
       refine WC.skip ?_
       refine WC.seq ?_
       refine WC.draw M3 [2] rfl ?_
       intro rb73 h74 M75
       refine WS.op rfl rfl (WS.op rfl (op_ld (M75.at 0 rfl) rfl rfl) (WS.op rfl rfl (WS.opV (.slice (some ⟨p1, 1, none⟩) 8 17) rfl rfl rfl (WS.op rfl (op_cvB (l := [f.t0, f.t1, f.t2, f.t3, f.t4, f.t5, f.t6, f.t7]) (M75.at 0 rfl) rfl rfl (Nat.le_of_ble_eq_true rfl) rfl) (WS.op rfl rfl ?_)))))
       refine WS.bslA M75 [_] 0 rfl rfl rfl rfl rfl ?_
       intro h77 M78
       refine WS.opR rfl rfl (op_cvB (l := [f.kd]) (M78.at 0 rfl) rfl rfl (Nat.le_of_ble_eq_true rfl) rfl) (WS.op rfl (op_sadd (l := [f.kd]) (m := [f.t0, f.t1, f.t2, f.t3, f.t4, f.t5, f.t6, f.t7]) rfl rfl (by first | omega | (simp only [List.length_append, List.length_cons, List.length_nil]; omega))) (WS.op rfl (op_sadd (l := ([f.kd] ++ [f.t0, f.t1, f.t2, f.t3, f.t4, f.t5, f.t6, f.t7])) (m := []) rfl rfl (by first | omega | (simp only [List.length_append, List.length_cons, List.length_nil]; omega))) (WS.op rfl rfl (WS.nil [(2, _)] rfl ?_))))
       refine WC.ret ?_
       refine ⟨[_], (res_tmp rfl res_nil), ?_⟩
       exact absurd rfl e38
   ·
    refine WS.op rfl rfl (WS.off rfl (WS.off rfl (WS.off rfl (WS.off rfl (WS.op rfl rfl (WS.op rfl rfl (WS.nil [(1, _), (3, _), (4, _), (14, _)] rfl ?_)))))))
    refine WC.condF rfl ?_
    refine WC.seq ?_
    refine WC.run ?_
    refine WS.op rfl rfl (WS.op rfl (op_ld (M3.at 0 rfl) rfl rfl) ?_)
    refine WS.eqlN (a := (f.kd).toNat) (b := 2) rfl rfl rfl (fun e30 => ?_) (fun e30 => ?_)
    ·
     refine WS.op rfl rfl (WS.op rfl rfl (WS.op rfl rfl (WS.op rfl rfl (WS.nil [(1, _), (4, _), (27, _)] rfl ?_))))
     refine WC.condF rfl ?_
     refine WC.skip ?_
     refine WC.seq ?_
     refine WC.seq ?_
     refine WC.run ?_
     refine WS.op rfl rfl ?_
     refine WS.seql (l := []) (m := []) rfl rfl rfl (fun e38 => ?_) (fun e38 => ?_)
     ·
      refine WS.nil [(1, _), (4, _), (38, _)] rfl ?_
      refine WC.condT rfl ?_
      refine WC.seq ?_
      refine WC.run ?_
      refine WS.op rfl rfl (WS.nil [(2, _)] rfl ?_)
      refine WC.ret ?_
      refine ⟨[_], (res_tmp rfl res_nil), ?_⟩
      have hn : ¬ MayF f := by
        rintro (⟨q1, q2, q3⟩ | ⟨q1, q2, q3⟩)
        · first
          | omega
          | exact absurd q2 (by assumption)
          | exact wrC_nil e38 q3
        · first
          | omega
          | (rw [q2] at e8; exact absurd rfl e8)
          | exact absurd (show OpOnly f.c by rw [q2]; rfl) (of_decide_eq_false (by assumption))
          | exact wrO_nil e38 q3
      exact ⟨by rw [if_neg (show ¬ mayFB f = true from fun q => hn (of_decide_eq_true q))]; rfl, M3.bare.take 0⟩
     ·
      refine WS.nil [(1, _), (4, _), (38, _)] rfl ?_
      refine WC.condF rfl ?_
      refine WC.skip ?_
      refine WC.seq ?_
      refine WC.draw M3 [2] rfl ?_
      intro rb79 h80 M81
      refine WS.op rfl rfl (WS.op rfl (op_ld (M81.at 0 rfl) rfl rfl) (WS.op rfl rfl (WS.opV (.slice (some ⟨p1, 1, none⟩) 8 17) rfl rfl rfl (WS.op rfl (op_cvB (l := [f.t0, f.t1, f.t2, f.t3, f.t4, f.t5, f.t6, f.t7]) (M81.at 0 rfl) rfl rfl (Nat.le_of_ble_eq_true rfl) rfl) (WS.op rfl rfl ?_)))))
      refine WS.bslA M81 [_] 0 rfl rfl rfl rfl rfl ?_
      intro h83 M84
      refine WS.opR rfl rfl (op_cvB (l := [f.kd]) (M84.at 0 rfl) rfl rfl (Nat.le_of_ble_eq_true rfl) rfl) (WS.op rfl (op_sadd (l := [f.kd]) (m := [f.t0, f.t1, f.t2, f.t3, f.t4, f.t5, f.t6, f.t7]) rfl rfl (by first | omega | (simp only [List.length_append, List.length_cons, List.length_nil]; omega))) (WS.op rfl (op_sadd (l := ([f.kd] ++ [f.t0, f.t1, f.t2, f.t3, f.t4, f.t5, f.t6, f.t7])) (m := []) rfl rfl (by first | omega | (simp only [List.length_append, List.length_cons, List.length_nil]; omega))) (WS.op rfl rfl (WS.nil [(2, _)] rfl ?_))))
      refine WC.ret ?_
      refine ⟨[_], (res_tmp rfl res_nil), ?_⟩
      exact absurd rfl e38
    ·
     refine WS.op rfl rfl (WS.off rfl (WS.op rfl rfl (WS.op rfl rfl (WS.nil [(1, _), (4, _), (27, _)] rfl ?_))))
     refine WC.condF rfl ?_
     refine WC.skip ?_
     refine WC.seq ?_
     refine WC.seq ?_
     refine WC.run ?_
     refine WS.op rfl rfl ?_
     refine WS.seql (l := []) (m := []) rfl rfl rfl (fun e38 => ?_) (fun e38 => ?_)
     ·
      refine WS.nil [(1, _), (4, _), (38, _)] rfl ?_
      refine WC.condT rfl ?_
      refine WC.seq ?_
      refine WC.run ?_
      refine WS.op rfl rfl (WS.nil [(2, _)] rfl ?_)
      refine WC.ret ?_
      refine ⟨[_], (res_tmp rfl res_nil), ?_⟩
      have hn : ¬ MayF f := by
        rintro (⟨q1, q2, q3⟩ | ⟨q1, q2, q3⟩)
        · first
          | omega
          | exact absurd q2 (by assumption)
          | exact wrC_nil e38 q3
        · first
          | omega
          | (rw [q2] at e8; exact absurd rfl e8)
          | exact absurd (show OpOnly f.c by rw [q2]; rfl) (of_decide_eq_false (by assumption))
          | exact wrO_nil e38 q3
      exact ⟨by rw [if_neg (show ¬ mayFB f = true from fun q => hn (of_decide_eq_true q))]; rfl, M3.bare.take 0⟩
     ·
      refine WS.nil [(1, _), (4, _), (38, _)] rfl ?_
      refine WC.condF rfl ?_
      refine WC.skip ?_
      refine WC.seq ?_
      refine WC.draw M3 [2] rfl ?_
      intro rb85 h86 M87
      refine WS.op rfl rfl (WS.op rfl (op_ld (M87.at 0 rfl) rfl rfl) (WS.op rfl rfl (WS.opV (.slice (some ⟨p1, 1, none⟩) 8 17) rfl rfl rfl (WS.op rfl (op_cvB (l := [f.t0, f.t1, f.t2, f.t3, f.t4, f.t5, f.t6, f.t7]) (M87.at 0 rfl) rfl rfl (Nat.le_of_ble_eq_true rfl) rfl) (WS.op rfl rfl ?_)))))
      refine WS.bslA M87 [_] 0 rfl rfl rfl rfl rfl ?_
      intro h89 M90
      refine WS.opR rfl rfl (op_cvB (l := [f.kd]) (M90.at 0 rfl) rfl rfl (Nat.le_of_ble_eq_true rfl) rfl) (WS.op rfl (op_sadd (l := [f.kd]) (m := [f.t0, f.t1, f.t2, f.t3, f.t4, f.t5, f.t6, f.t7]) rfl rfl (by first | omega | (simp only [List.length_append, List.length_cons, List.length_nil]; omega))) (WS.op rfl (op_sadd (l := ([f.kd] ++ [f.t0, f.t1, f.t2, f.t3, f.t4, f.t5, f.t6, f.t7])) (m := []) rfl rfl (by first | omega | (simp only [List.length_append, List.length_cons, List.length_nil]; omega))) (WS.op rfl rfl (WS.nil [(2, _)] rfl ?_))))
      refine WC.ret ?_
      refine ⟨[_], (res_tmp rfl res_nil), ?_⟩
      exact absurd rfl e38
set_option maxRecDepth 8000 in
theorem refWriteF_ran (W : Mem h h [] []) {f : Frm} {V : Value} (A : KPart.Sl h V f.c.ps) (hf : Fit f.c) : Cll tab0 18 [f.val V] h (fun v h2 => v = .string (bs (if mayFB f then encF f else [])) ∧ Mem h h2 [] []) := by
  obtain ⟨P, n, rfl⟩ := A.shape
  have hwc := wrC_lenF hf
  have hwo := wrO_len (c := f.o)
  have hps := hf.2.2.2.2.2.1
  refine Cll.code rfl rfl ?_
  refine WC.env [(0, _)] rfl ?_
  refine WC.seq ?_
  refine WC.run ?_
  refine WS.box W [_, _, _, _, _, _, _, _, _, _, _, _, _, _, _, _, _, _, _, _, _, _, _, _, _, _, _, _, _, _, _, _, _, _, _, _, _] rfl rfl rfl rfl ?_
  intro p1 h2 M3
  refine WS.op rfl rfl (WS.nil [(1, _)] rfl ?_)
  refine WC.seq ?_
  refine WC.run ?_
  refine WS.op rfl rfl (WS.op rfl (op_ld (M3.at 0 rfl) rfl rfl) ?_)
  refine WS.bsl M3 [_] rfl rfl rfl rfl ?_
  intro p4 h5 M6
  refine WS.op rfl (op_cvB (l := [f.kd]) (M6.at 0 rfl) rfl rfl (Nat.le_of_ble_eq_true rfl) rfl) (WS.op rfl rfl (WS.nil [(1, _), (3, _)] rfl ?_))
  refine WC.seq ?_
  refine WC.seq ?_
  refine WC.run ?_
  refine WS.op rfl rfl (WS.nil [(1, _), (3, _), (4, _)] rfl ?_)
  refine WC.block ?_
  refine WC.unroll [(1, _), (3, _), (4, _)] rfl ?_
  refine WC.seq ?_
  refine WC.seq ?_
  refine WC.run ?_
  refine WS.op rfl rfl (WS.opV (.bool true) rfl rfl rfl (WS.nil [(1, _), (3, _), (4, _), (10, _)] rfl ?_))
  refine WC.condT rfl ?_
  refine WC.skip ?_
  refine WC.seq ?_
  refine WC.block ?_
  refine WC.run ?_
  refine WS.op rfl rfl (WS.op rfl rfl (WS.op rfl rfl (WS.op rfl rfl (WS.op rfl (op_ld (M6.at 1 rfl) rfl rfl) ?_))))
  refine WS.bsl M6 [_] rfl rfl rfl rfl ?_
  intro p7 h8 M9
  refine WS.op rfl (op_cvB (l := [f.t0]) (M9.at 0 rfl) rfl rfl (Nat.le_of_ble_eq_true rfl) rfl) (WS.op rfl (op_sadd (l := [f.kd]) (m := [f.t0]) rfl rfl (by first | omega | (simp only [List.length_append, List.length_cons, List.length_nil]; omega))) (WS.op rfl rfl (WS.nil [(1, _), (3, _), (4, _)] rfl ?_)))
  refine WC.run ?_
  refine WS.op rfl rfl (WS.opV (.int .i64 1) rfl rfl rfl (WS.op rfl rfl (WS.nil [(1, _), (3, _), (4, _)] rfl ?_)))
  refine WC.unroll [(1, _), (3, _), (4, _)] rfl ?_
  refine WC.seq ?_
  refine WC.seq ?_
  refine WC.run ?_
  refine WS.op rfl rfl (WS.opV (.bool true) rfl rfl rfl (WS.nil [(1, _), (3, _), (4, _), (10, _)] rfl ?_))
  refine WC.condT rfl ?_
  refine WC.skip ?_
  refine WC.seq ?_
  refine WC.block ?_
  refine WC.run ?_
  refine WS.op rfl rfl (WS.op rfl rfl (WS.op rfl rfl (WS.op rfl rfl (WS.op rfl (op_ld (M9.at 2 rfl) rfl rfl) ?_))))
  refine WS.bsl M9 [_] rfl rfl rfl rfl ?_
  intro p10 h11 M12
  refine WS.op rfl (op_cvB (l := [f.t1]) (M12.at 0 rfl) rfl rfl (Nat.le_of_ble_eq_true rfl) rfl) (WS.op rfl (op_sadd (l := ([f.kd] ++ [f.t0])) (m := [f.t1]) rfl rfl (by first | omega | (simp only [List.length_append, List.length_cons, List.length_nil]; omega))) (WS.op rfl rfl (WS.nil [(1, _), (3, _), (4, _)] rfl ?_)))
  refine WC.run ?_
  refine WS.op rfl rfl (WS.opV (.int .i64 2) rfl rfl rfl (WS.op rfl rfl (WS.nil [(1, _), (3, _), (4, _)] rfl ?_)))
  refine WC.unroll [(1, _), (3, _), (4, _)] rfl ?_
  refine WC.seq ?_
  refine WC.seq ?_
  refine WC.run ?_
  refine WS.op rfl rfl (WS.opV (.bool true) rfl rfl rfl (WS.nil [(1, _), (3, _), (4, _), (10, _)] rfl ?_))
  refine WC.condT rfl ?_
  refine WC.skip ?_
  refine WC.seq ?_
  refine WC.block ?_
  refine WC.run ?_
  refine WS.op rfl rfl (WS.op rfl rfl (WS.op rfl rfl (WS.op rfl rfl (WS.op rfl (op_ld (M12.at 3 rfl) rfl rfl) ?_))))
  refine WS.bsl M12 [_] rfl rfl rfl rfl ?_
  intro p13 h14 M15
  refine WS.op rfl (op_cvB (l := [f.t2]) (M15.at 0 rfl) rfl rfl (Nat.le_of_ble_eq_true rfl) rfl) (WS.op rfl (op_sadd (l := (([f.kd] ++ [f.t0]) ++ [f.t1])) (m := [f.t2]) rfl rfl (by first | omega | (simp only [List.length_append, List.length_cons, List.length_nil]; omega))) (WS.op rfl rfl (WS.nil [(1, _), (3, _), (4, _)] rfl ?_)))
  refine WC.run ?_
  refine WS.op rfl rfl (WS.opV (.int .i64 3) rfl rfl rfl (WS.op rfl rfl (WS.nil [(1, _), (3, _), (4, _)] rfl ?_)))
  refine WC.unroll [(1, _), (3, _), (4, _)] rfl ?_
  refine WC.seq ?_
  refine WC.seq ?_
  refine WC.run ?_
  refine WS.op rfl rfl (WS.opV (.bool true) rfl rfl rfl (WS.nil [(1, _), (3, _), (4, _), (10, _)] rfl ?_))
  refine WC.condT rfl ?_
  refine WC.skip ?_
  refine WC.seq ?_
  refine WC.block ?_
  refine WC.run ?_
  refine WS.op rfl rfl (WS.op rfl rfl (WS.op rfl rfl (WS.op rfl rfl (WS.op rfl (op_ld (M15.at 4 rfl) rfl rfl) ?_))))
  refine WS.bsl M15 [_] rfl rfl rfl rfl ?_
  intro p16 h17 M18
  refine WS.op rfl (op_cvB (l := [f.t3]) (M18.at 0 rfl) rfl rfl (Nat.le_of_ble_eq_true rfl) rfl) (WS.op rfl (op_sadd (l := ((([f.kd] ++ [f.t0]) ++ [f.t1]) ++ [f.t2])) (m := [f.t3]) rfl rfl (by first | omega | (simp only [List.length_append, List.length_cons, List.length_nil]; omega))) (WS.op rfl rfl (WS.nil [(1, _), (3, _), (4, _)] rfl ?_)))
  refine WC.run ?_
  refine WS.op rfl rfl (WS.opV (.int .i64 4) rfl rfl rfl (WS.op rfl rfl (WS.nil [(1, _), (3, _), (4, _)] rfl ?_)))
  refine WC.unroll [(1, _), (3, _), (4, _)] rfl ?_
  refine WC.seq ?_
  refine WC.seq ?_
  refine WC.run ?_
  refine WS.op rfl rfl (WS.opV (.bool true) rfl rfl rfl (WS.nil [(1, _), (3, _), (4, _), (10, _)] rfl ?_))
  refine WC.condT rfl ?_
  refine WC.skip ?_
  refine WC.seq ?_
  refine WC.block ?_
  refine WC.run ?_
  refine WS.op rfl rfl (WS.op rfl rfl (WS.op rfl rfl (WS.op rfl rfl (WS.op rfl (op_ld (M18.at 5 rfl) rfl rfl) ?_))))
  refine WS.bsl M18 [_] rfl rfl rfl rfl ?_
  intro p19 h20 M21
  refine WS.op rfl (op_cvB (l := [f.t4]) (M21.at 0 rfl) rfl rfl (Nat.le_of_ble_eq_true rfl) rfl) (WS.op rfl (op_sadd (l := (((([f.kd] ++ [f.t0]) ++ [f.t1]) ++ [f.t2]) ++ [f.t3])) (m := [f.t4]) rfl rfl (by first | omega | (simp only [List.length_append, List.length_cons, List.length_nil]; omega))) (WS.op rfl rfl (WS.nil [(1, _), (3, _), (4, _)] rfl ?_)))
  refine WC.run ?_
  refine WS.op rfl rfl (WS.opV (.int .i64 5) rfl rfl rfl (WS.op rfl rfl (WS.nil [(1, _), (3, _), (4, _)] rfl ?_)))
  refine WC.unroll [(1, _), (3, _), (4, _)] rfl ?_
  refine WC.seq ?_
  refine WC.seq ?_
  refine WC.run ?_
  refine WS.op rfl rfl (WS.opV (.bool true) rfl rfl rfl (WS.nil [(1, _), (3, _), (4, _), (10, _)] rfl ?_))
  refine WC.condT rfl ?_
  refine WC.skip ?_
  refine WC.seq ?_
  refine WC.block ?_
  refine WC.run ?_
  refine WS.op rfl rfl (WS.op rfl rfl (WS.op rfl rfl (WS.op rfl rfl (WS.op rfl (op_ld (M21.at 6 rfl) rfl rfl) ?_))))
  refine WS.bsl M21 [_] rfl rfl rfl rfl ?_
  intro p22 h23 M24
  refine WS.op rfl (op_cvB (l := [f.t5]) (M24.at 0 rfl) rfl rfl (Nat.le_of_ble_eq_true rfl) rfl) (WS.op rfl (op_sadd (l := ((((([f.kd] ++ [f.t0]) ++ [f.t1]) ++ [f.t2]) ++ [f.t3]) ++ [f.t4])) (m := [f.t5]) rfl rfl (by first | omega | (simp only [List.length_append, List.length_cons, List.length_nil]; omega))) (WS.op rfl rfl (WS.nil [(1, _), (3, _), (4, _)] rfl ?_)))
  refine WC.run ?_
  refine WS.op rfl rfl (WS.opV (.int .i64 6) rfl rfl rfl (WS.op rfl rfl (WS.nil [(1, _), (3, _), (4, _)] rfl ?_)))
  refine WC.unroll [(1, _), (3, _), (4, _)] rfl ?_
  refine WC.seq ?_
  refine WC.seq ?_
  refine WC.run ?_
  refine WS.op rfl rfl (WS.opV (.bool true) rfl rfl rfl (WS.nil [(1, _), (3, _), (4, _), (10, _)] rfl ?_))
  refine WC.condT rfl ?_
  refine WC.skip ?_
  refine WC.seq ?_
  refine WC.block ?_
  refine WC.run ?_
  refine WS.op rfl rfl (WS.op rfl rfl (WS.op rfl rfl (WS.op rfl rfl (WS.op rfl (op_ld (M24.at 7 rfl) rfl rfl) ?_))))
  refine WS.bsl M24 [_] rfl rfl rfl rfl ?_
  intro p25 h26 M27
  refine WS.op rfl (op_cvB (l := [f.t6]) (M27.at 0 rfl) rfl rfl (Nat.le_of_ble_eq_true rfl) rfl) (WS.op rfl (op_sadd (l := (((((([f.kd] ++ [f.t0]) ++ [f.t1]) ++ [f.t2]) ++ [f.t3]) ++ [f.t4]) ++ [f.t5])) (m := [f.t6]) rfl rfl (by first | omega | (simp only [List.length_append, List.length_cons, List.length_nil]; omega))) (WS.op rfl rfl (WS.nil [(1, _), (3, _), (4, _)] rfl ?_)))
  refine WC.run ?_
  refine WS.op rfl rfl (WS.opV (.int .i64 7) rfl rfl rfl (WS.op rfl rfl (WS.nil [(1, _), (3, _), (4, _)] rfl ?_)))
  refine WC.unroll [(1, _), (3, _), (4, _)] rfl ?_
  refine WC.seq ?_
  refine WC.seq ?_
  refine WC.run ?_
  refine WS.op rfl rfl (WS.opV (.bool true) rfl rfl rfl (WS.nil [(1, _), (3, _), (4, _), (10, _)] rfl ?_))
  refine WC.condT rfl ?_
  refine WC.skip ?_
  refine WC.seq ?_
  refine WC.block ?_
  refine WC.run ?_
  refine WS.op rfl rfl (WS.op rfl rfl (WS.op rfl rfl (WS.op rfl rfl (WS.op rfl (op_ld (M27.at 8 rfl) rfl rfl) ?_))))
  refine WS.bsl M27 [_] rfl rfl rfl rfl ?_
  intro p28 h29 M30
  refine WS.op rfl (op_cvB (l := [f.t7]) (M30.at 0 rfl) rfl rfl (Nat.le_of_ble_eq_true rfl) rfl) (WS.op rfl (op_sadd (l := ((((((([f.kd] ++ [f.t0]) ++ [f.t1]) ++ [f.t2]) ++ [f.t3]) ++ [f.t4]) ++ [f.t5]) ++ [f.t6])) (m := [f.t7]) rfl rfl (by first | omega | (simp only [List.length_append, List.length_cons, List.length_nil]; omega))) (WS.op rfl rfl (WS.nil [(1, _), (3, _), (4, _)] rfl ?_)))
  refine WC.run ?_
  refine WS.op rfl rfl (WS.opV (.int .i64 8) rfl rfl rfl (WS.op rfl rfl (WS.nil [(1, _), (3, _), (4, _)] rfl ?_)))
  refine WC.unroll [(1, _), (3, _), (4, _)] rfl ?_
  refine WC.seq ?_
  refine WC.seq ?_
  refine WC.run ?_
  refine WS.op rfl rfl (WS.opV (.bool false) rfl rfl rfl (WS.nil [(1, _), (3, _), (4, _), (10, _)] rfl ?_))
  refine WC.condF rfl ?_
  refine WC.exit ?_
  refine WC.seq ?_
  refine WC.seq ?_
  refine WC.run ?_
  refine WS.op rfl rfl (WS.op rfl (op_ld (M30.at 9 rfl) rfl rfl) ?_)
  refine WS.eqlN (a := (f.kd).toNat) (b := 1) rfl rfl rfl (fun e23 => ?_) (fun e23 => ?_)
  ·
   refine WS.op rfl rfl (WS.op rfl rfl (WS.op rfl (op_lds [_, _, _, _, _, _, _, _, _, _, _, _, _, _, _, _] (M30.at 9 rfl) rfl (Nat.le_of_ble_eq_true rfl) rfl) (WS.opV (.agg #[(.int .u8 (0 : Int)), (.int .u8 (0 : Int)), (.int .u8 (0 : Int)), (.int .u8 (0 : Int)), (.int .u8 (0 : Int)), (.int .u8 (0 : Int)), (.int .u8 (0 : Int)), (.int .u8 (0 : Int)), (.int .u8 (0 : Int)), (.int .u8 (0 : Int)), (.int .u8 (0 : Int)), (.int .i64 (0 : Int)), (.int .i64 (0 : Int)), (.int .i64 (0 : Int)), (.int .i64 (0 : Int)), (.int .u8 (0 : Int))]) rfl rfl rfl ?_)))
   refine WS.eqqD (p := f.o = (⟨0, 0, 0, 0, 0, 0, 0, 0, 0, 0, 0, 0, 0, 0, 0, 0⟩ : Oper)) rfl rfl rfl (Oper_eqV f.o (⟨0, 0, 0, 0, 0, 0, 0, 0, 0, 0, 0, 0, 0, 0, 0, 0⟩ : Oper)) (fun e28 => ?_) (fun e28 => ?_)
   ·
    refine WS.op rfl rfl (WS.op rfl rfl (WS.op rfl rfl (WS.op rfl (op_lds [_, _, _, _, _, _, _, _, _, _, _, _] (M30.at 9 rfl) rfl (Nat.le_of_ble_eq_true rfl) rfl) ?_)))
    refine WS.call rfl rfl rfl (refMay_ran M30.here (c := f.c) (A.mono M30.sub) (by assumption)) ?_
    rintro _ h31 ⟨rfl, N32⟩
    have M33 := M30.trans N32
    refine WS.op rfl rfl (WS.nil [(1, _), (3, _), (34, _)] rfl ?_)
    cases hb1 : (mayB f.c)
    ·
     refine WC.condF rfl ?_
     refine WC.skip ?_
     refine WC.seq ?_
     refine WC.seq ?_
     refine WC.run ?_
     refine WS.op rfl rfl (WS.op rfl (op_ld (M33.at 9 rfl) rfl rfl) ?_)
     refine WS.eqlN (a := (f.kd).toNat) (b := 2) rfl rfl rfl (fun e42 => ?_) (fun e42 => ?_)
     ·
      refine WS.op rfl rfl (WS.op rfl rfl (WS.op rfl (op_lds [_, _, _, _, _, _, _, _, _, _, _, _] (M33.at 9 rfl) rfl (Nat.le_of_ble_eq_true rfl) rfl) (WS.opV (.agg #[(.int .u8 (0 : Int)), (.int .u64 (0 : Int)), (.int .u64 (0 : Int)), (.string (bs ([]))), (.string (bs ([]))), (.string (bs ([]))), (.string (bs ([]))), (.string (bs ([]))), (.int .u8 (0 : Int)), (.int .u64 (0 : Int)), (.int .u64 (0 : Int)), (.slice none 0 0)]) rfl rfl rfl ?_)))
      refine WS.call rfl rfl rfl (Same_ran M33.here (a := f.c) (b := (⟨0, 0, 0, ([]), ([]), ([]), ([]), ([]), 0, 0, 0, []⟩ : Cmd)) (A.mono M33.sub) Row.Sl.nil (by omega)) ?_
      rintro _ h34 ⟨rfl, N35⟩
      have M36 := M33.trans N35
      refine WS.op rfl rfl (WS.op rfl rfl ?_)
      cases hb2 : (decide (f.c = (⟨0, 0, 0, ([]), ([]), ([]), ([]), ([]), 0, 0, 0, []⟩ : Cmd)))
      ·
       refine WS.off rfl (WS.off rfl (WS.offC rfl (WS.op rfl rfl (WS.nil [(1, _), (3, _), (53, _)] rfl ?_))))
       refine WC.condF rfl ?_
       refine WC.skip ?_
       refine WC.seq ?_
       refine WC.run ?_
       refine WS.op rfl rfl (WS.nil [(2, _)] rfl ?_)
       refine WC.ret ?_
       refine ⟨[_], (res_tmp rfl res_nil), ?_⟩
       have hn : ¬ MayF f := by
         rintro (⟨q1, q2, q3⟩ | ⟨q1, q2, q3⟩)
         · first
           | omega
           | exact absurd q2 (by assumption)
           | exact absurd q3 (of_decide_eq_false (by assumption))
         · first
           | omega
           | exact absurd (show f.c = (⟨0, 0, 0, [], [], [], [], [], 0, 0, 0, []⟩ : Cmd) from q2) (of_decide_eq_false (by assumption))
           | exact absurd q3 (of_decide_eq_false (by assumption))
       exact ⟨by rw [if_neg (show ¬ mayFB f = true from fun q => hn (of_decide_eq_true q))]; rfl, M36.bare.take 0⟩
      ·
       refine WS.op rfl rfl (WS.op rfl (op_lds [_, _, _, _, _, _, _, _, _, _, _, _, _, _, _, _] (M36.at 9 rfl) rfl (Nat.le_of_ble_eq_true rfl) rfl) ?_)
       refine WS.call rfl rfl rfl (refMayO_ran M36.here (o := f.o)) ?_
       rintro _ h37 ⟨rfl, N38⟩
       have M39 := M36.trans N38
       refine WS.op rfl rfl (WS.nil [(1, _), (3, _), (53, _)] rfl ?_)
       cases hb3 : (mayOB f.o)
       ·
        refine WC.condF rfl ?_
        refine WC.skip ?_
        refine WC.seq ?_
        refine WC.run ?_
        refine WS.op rfl rfl (WS.nil [(2, _)] rfl ?_)
        refine WC.ret ?_
        refine ⟨[_], (res_tmp rfl res_nil), ?_⟩
        have hn : ¬ MayF f := by
          rintro (⟨q1, q2, q3⟩ | ⟨q1, q2, q3⟩)
          · first
            | omega
            | exact absurd q2 (by assumption)
            | exact absurd q3 (of_decide_eq_false (by assumption))
          · first
            | omega
            | exact absurd (show f.c = (⟨0, 0, 0, [], [], [], [], [], 0, 0, 0, []⟩ : Cmd) from q2) (of_decide_eq_false (by assumption))
            | exact absurd q3 (of_decide_eq_false (by assumption))
        exact ⟨by rw [if_neg (show ¬ mayFB f = true from fun q => hn (of_decide_eq_true q))]; rfl, M39.bare.take 0⟩
       ·
        refine WC.condT rfl ?_
        refine WC.seq ?_
        refine WC.run ?_
        refine WS.op rfl rfl (WS.op rfl rfl (WS.op rfl (op_lds [_, _, _, _, _, _, _, _, _, _, _, _, _, _, _, _] (M39.at 9 rfl) rfl (Nat.le_of_ble_eq_true rfl) rfl) ?_))
        refine WS.call rfl rfl rfl (refWriteO_ran M39.here (o := f.o)) ?_
        rintro _ h40 ⟨rfl, N41⟩
        have M42 := M39.trans N41
        refine WS.op rfl (op_sadd (l := (((((((([f.kd] ++ [f.t0]) ++ [f.t1]) ++ [f.t2]) ++ [f.t3]) ++ [f.t4]) ++ [f.t5]) ++ [f.t6]) ++ [f.t7])) (m := (if mayOB f.o then encO f.o else [])) rfl rfl (by first | omega | (simp only [List.length_append, List.length_cons, List.length_nil]; omega))) (WS.op rfl rfl (WS.nil [(2, _)] rfl ?_))
        refine WC.ret ?_
        refine ⟨[_], (res_tmp rfl res_nil), ?_⟩
        have hM : mayOB f.o = true := by assumption
        have hZ : f.c = zeroC := of_decide_eq_true (p := f.c = (⟨0, 0, 0, [], [], [], [], [], 0, 0, 0, []⟩ : Cmd)) (by assumption)
        have hF : mayFB f = true := decide_eq_true (.inr ⟨by omega, hZ, of_decide_eq_true hM⟩)
        exact ⟨by rw [if_pos hF]; unfold encF; rw [tailF_2 (by omega), if_pos hM]; rfl, M42.bare.take 0⟩
     ·
      refine WS.op rfl rfl (WS.off rfl (WS.off rfl (WS.off rfl (WS.offC rfl (WS.op rfl rfl (WS.op rfl rfl (WS.off rfl (WS.off rfl (WS.offC rfl ?_)))))))))
      refine WS.op rfl rfl (WS.nil [(1, _), (3, _), (53, _)] rfl ?_)
      refine WC.condF rfl ?_
      refine WC.skip ?_
      refine WC.seq ?_
      refine WC.run ?_
      refine WS.op rfl rfl (WS.nil [(2, _)] rfl ?_)
      refine WC.ret ?_
      refine ⟨[_], (res_tmp rfl res_nil), ?_⟩
      have hn : ¬ MayF f := by
        rintro (⟨q1, q2, q3⟩ | ⟨q1, q2, q3⟩)
        · first
          | omega
          | exact absurd q2 (by assumption)
          | exact absurd q3 (of_decide_eq_false (by assumption))
        · first
          | omega
          | exact absurd (show f.c = (⟨0, 0, 0, [], [], [], [], [], 0, 0, 0, []⟩ : Cmd) from q2) (of_decide_eq_false (by assumption))
          | exact absurd q3 (of_decide_eq_false (by assumption))
      exact ⟨by rw [if_neg (show ¬ mayFB f = true from fun q => hn (of_decide_eq_true q))]; rfl, M33.bare.take 0⟩
    ·
     refine WC.condT rfl ?_
     refine WC.seq ?_
     refine WC.run ?_
     refine WS.op rfl rfl (WS.op rfl rfl (WS.op rfl (op_lds [_, _, _, _, _, _, _, _, _, _, _, _] (M33.at 9 rfl) rfl (Nat.le_of_ble_eq_true rfl) rfl) ?_))
     refine WS.call rfl rfl rfl (refWrite_ran M33.here (c := f.c) (A.mono M33.sub) (by assumption)) ?_
     rintro _ h43 ⟨rfl, N44⟩
     have M45 := M33.trans N44
     refine WS.op rfl (op_sadd (l := (((((((([f.kd] ++ [f.t0]) ++ [f.t1]) ++ [f.t2]) ++ [f.t3]) ++ [f.t4]) ++ [f.t5]) ++ [f.t6]) ++ [f.t7])) (m := (if mayB f.c then encC f.c else [])) rfl rfl (by first | omega | (simp only [List.length_append, List.length_cons, List.length_nil]; omega))) (WS.op rfl rfl (WS.nil [(2, _)] rfl ?_))
     refine WC.ret ?_
     refine ⟨[_], (res_tmp rfl res_nil), ?_⟩
     have hM : mayB f.c = true := by assumption
     have hF : mayFB f = true := decide_eq_true (.inl ⟨by omega, by assumption, of_decide_eq_true hM⟩)
     exact ⟨by rw [if_pos hF]; unfold encF; rw [tailF_1 (by omega), if_pos hM]; rfl, M45.bare.take 0⟩
   ·
    refine WS.op rfl rfl (WS.op rfl rfl (WS.off rfl (WS.off rfl (WS.offC rfl (WS.op rfl rfl (WS.nil [(1, _), (3, _), (34, _)] rfl ?_))))))
    refine WC.condF rfl ?_
    refine WC.skip ?_
    refine WC.seq ?_
    refine WC.seq ?_
    refine WC.run ?_
    refine WS.op rfl rfl (WS.op rfl (op_ld (M30.at 9 rfl) rfl rfl) ?_)
    refine WS.eqlN (a := (f.kd).toNat) (b := 2) rfl rfl rfl (fun e42 => ?_) (fun e42 => ?_)
    ·
     refine WS.op rfl rfl (WS.op rfl rfl (WS.op rfl (op_lds [_, _, _, _, _, _, _, _, _, _, _, _] (M30.at 9 rfl) rfl (Nat.le_of_ble_eq_true rfl) rfl) (WS.opV (.agg #[(.int .u8 (0 : Int)), (.int .u64 (0 : Int)), (.int .u64 (0 : Int)), (.string (bs ([]))), (.string (bs ([]))), (.string (bs ([]))), (.string (bs ([]))), (.string (bs ([]))), (.int .u8 (0 : Int)), (.int .u64 (0 : Int)), (.int .u64 (0 : Int)), (.slice none 0 0)]) rfl rfl rfl ?_)))
     refine WS.call rfl rfl rfl (Same_ran M30.here (a := f.c) (b := (⟨0, 0, 0, ([]), ([]), ([]), ([]), ([]), 0, 0, 0, []⟩ : Cmd)) (A.mono M30.sub) Row.Sl.nil (by omega)) ?_
     rintro _ h46 ⟨rfl, N47⟩
     have M48 := M30.trans N47
     refine WS.op rfl rfl (WS.op rfl rfl ?_)
     cases hb2 : (decide (f.c = (⟨0, 0, 0, ([]), ([]), ([]), ([]), ([]), 0, 0, 0, []⟩ : Cmd)))
     ·
      refine WS.off rfl (WS.off rfl (WS.offC rfl (WS.op rfl rfl (WS.nil [(1, _), (3, _), (53, _)] rfl ?_))))
      refine WC.condF rfl ?_
      refine WC.skip ?_
      refine WC.seq ?_
      refine WC.run ?_
      refine WS.op rfl rfl (WS.nil [(2, _)] rfl ?_)
      refine WC.ret ?_
      refine ⟨[_], (res_tmp rfl res_nil), ?_⟩
      have hn : ¬ MayF f := by
        rintro (⟨q1, q2, q3⟩ | ⟨q1, q2, q3⟩)
        · first
          | omega
          | exact absurd q2 (by assumption)
          | exact absurd q3 (of_decide_eq_false (by assumption))
        · first
          | omega
          | exact absurd (show f.c = (⟨0, 0, 0, [], [], [], [], [], 0, 0, 0, []⟩ : Cmd) from q2) (of_decide_eq_false (by assumption))
          | exact absurd q3 (of_decide_eq_false (by assumption))
      exact ⟨by rw [if_neg (show ¬ mayFB f = true from fun q => hn (of_decide_eq_true q))]; rfl, M48.bare.take 0⟩
     ·
      refine WS.op rfl rfl (WS.op rfl (op_lds [_, _, _, _, _, _, _, _, _, _, _, _, _, _, _, _] (M48.at 9 rfl) rfl (Nat.le_of_ble_eq_true rfl) rfl) ?_)
      refine WS.call rfl rfl rfl (refMayO_ran M48.here (o := f.o)) ?_
      rintro _ h49 ⟨rfl, N50⟩
      have M51 := M48.trans N50
      refine WS.op rfl rfl (WS.nil [(1, _), (3, _), (53, _)] rfl ?_)
      cases hb3 : (mayOB f.o)
      ·
       refine WC.condF rfl ?_
       refine WC.skip ?_
       refine WC.seq ?_
       refine WC.run ?_
       refine WS.op rfl rfl (WS.nil [(2, _)] rfl ?_)
       refine WC.ret ?_
       refine ⟨[_], (res_tmp rfl res_nil), ?_⟩
       have hn : ¬ MayF f := by
         rintro (⟨q1, q2, q3⟩ | ⟨q1, q2, q3⟩)
         · first
           | omega
           | exact absurd q2 (by assumption)
           | exact absurd q3 (of_decide_eq_false (by assumption))
         · first
           | omega
           | exact absurd (show f.c = (⟨0, 0, 0, [], [], [], [], [], 0, 0, 0, []⟩ : Cmd) from q2) (of_decide_eq_false (by assumption))
           | exact absurd q3 (of_decide_eq_false (by assumption))
       exact ⟨by rw [if_neg (show ¬ mayFB f = true from fun q => hn (of_decide_eq_true q))]; rfl, M51.bare.take 0⟩
      ·
       refine WC.condT rfl ?_
       refine WC.seq ?_
       refine WC.run ?_
       refine WS.op rfl rfl (WS.op rfl rfl (WS.op rfl (op_lds [_, _, _, _, _, _, _, _, _, _, _, _, _, _, _, _] (M51.at 9 rfl) rfl (Nat.le_of_ble_eq_true rfl) rfl) ?_))
       refine WS.call rfl rfl rfl (refWriteO_ran M51.here (o := f.o)) ?_
       rintro _ h52 ⟨rfl, N53⟩
       have M54 := M51.trans N53
       refine WS.op rfl (op_sadd (l := (((((((([f.kd] ++ [f.t0]) ++ [f.t1]) ++ [f.t2]) ++ [f.t3]) ++ [f.t4]) ++ [f.t5]) ++ [f.t6]) ++ [f.t7])) (m := (if mayOB f.o then encO f.o else [])) rfl rfl (by first | omega | (simp only [List.length_append, List.length_cons, List.length_nil]; omega))) (WS.op rfl rfl (WS.nil [(2, _)] rfl ?_))
       refine WC.ret ?_
       refine ⟨[_], (res_tmp rfl res_nil), ?_⟩
       have hM : mayOB f.o = true := by assumption
       have hZ : f.c = zeroC := of_decide_eq_true (p := f.c = (⟨0, 0, 0, [], [], [], [], [], 0, 0, 0, []⟩ : Cmd)) (by assumption)
       have hF : mayFB f = true := decide_eq_true (.inr ⟨by omega, hZ, of_decide_eq_true hM⟩)
       exact ⟨by rw [if_pos hF]; unfold encF; rw [tailF_2 (by omega), if_pos hM]; rfl, M54.bare.take 0⟩
    ·
     refine WS.op rfl rfl (WS.off rfl (WS.off rfl (WS.off rfl (WS.offC rfl (WS.op rfl rfl (WS.op rfl rfl (WS.off rfl (WS.off rfl (WS.offC rfl ?_)))))))))
     refine WS.op rfl rfl (WS.nil [(1, _), (3, _), (53, _)] rfl ?_)
     refine WC.condF rfl ?_
     refine WC.skip ?_
     refine WC.seq ?_
     refine WC.run ?_
     refine WS.op rfl rfl (WS.nil [(2, _)] rfl ?_)
     refine WC.ret ?_
     refine ⟨[_], (res_tmp rfl res_nil), ?_⟩
     have hn : ¬ MayF f := by
       rintro (⟨q1, q2, q3⟩ | ⟨q1, q2, q3⟩)
       · first
         | omega
         | exact absurd q2 (by assumption)
         | exact absurd q3 (of_decide_eq_false (by assumption))
       · first
         | omega
         | exact absurd (show f.c = (⟨0, 0, 0, [], [], [], [], [], 0, 0, 0, []⟩ : Cmd) from q2) (of_decide_eq_false (by assumption))
         | exact absurd q3 (of_decide_eq_false (by assumption))
     exact ⟨by rw [if_neg (show ¬ mayFB f = true from fun q => hn (of_decide_eq_true q))]; rfl, M30.bare.take 0⟩
  ·
   refine WS.op rfl rfl (WS.off rfl (WS.off rfl (WS.off rfl (WS.off rfl (WS.op rfl rfl (WS.op rfl rfl (WS.off rfl (WS.off rfl (WS.offC rfl ?_)))))))))
   refine WS.op rfl rfl (WS.nil [(1, _), (3, _), (34, _)] rfl ?_)
   refine WC.condF rfl ?_
   refine WC.skip ?_
   refine WC.seq ?_
   refine WC.seq ?_
   refine WC.run ?_
   refine WS.op rfl rfl (WS.op rfl (op_ld (M30.at 9 rfl) rfl rfl) ?_)
   refine WS.eqlN (a := (f.kd).toNat) (b := 2) rfl rfl rfl (fun e42 => ?_) (fun e42 => ?_)
   ·
    refine WS.op rfl rfl (WS.op rfl rfl (WS.op rfl (op_lds [_, _, _, _, _, _, _, _, _, _, _, _] (M30.at 9 rfl) rfl (Nat.le_of_ble_eq_true rfl) rfl) (WS.opV (.agg #[(.int .u8 (0 : Int)), (.int .u64 (0 : Int)), (.int .u64 (0 : Int)), (.string (bs ([]))), (.string (bs ([]))), (.string (bs ([]))), (.string (bs ([]))), (.string (bs ([]))), (.int .u8 (0 : Int)), (.int .u64 (0 : Int)), (.int .u64 (0 : Int)), (.slice none 0 0)]) rfl rfl rfl ?_)))
    refine WS.call rfl rfl rfl (Same_ran M30.here (a := f.c) (b := (⟨0, 0, 0, ([]), ([]), ([]), ([]), ([]), 0, 0, 0, []⟩ : Cmd)) (A.mono M30.sub) Row.Sl.nil (by omega)) ?_
    rintro _ h55 ⟨rfl, N56⟩
    have M57 := M30.trans N56
    refine WS.op rfl rfl (WS.op rfl rfl ?_)
    cases hb2 : (decide (f.c = (⟨0, 0, 0, ([]), ([]), ([]), ([]), ([]), 0, 0, 0, []⟩ : Cmd)))
    ·
     refine WS.off rfl (WS.off rfl (WS.offC rfl (WS.op rfl rfl (WS.nil [(1, _), (3, _), (53, _)] rfl ?_))))
     refine WC.condF rfl ?_
     refine WC.skip ?_
     refine WC.seq ?_
     refine WC.run ?_
     refine WS.op rfl rfl (WS.nil [(2, _)] rfl ?_)
     refine WC.ret ?_
     refine ⟨[_], (res_tmp rfl res_nil), ?_⟩
     have hn : ¬ MayF f := by
       rintro (⟨q1, q2, q3⟩ | ⟨q1, q2, q3⟩)
       · first
         | omega
         | exact absurd q2 (by assumption)
         | exact absurd q3 (of_decide_eq_false (by assumption))
       · first
         | omega
         | exact absurd (show f.c = (⟨0, 0, 0, [], [], [], [], [], 0, 0, 0, []⟩ : Cmd) from q2) (of_decide_eq_false (by assumption))
         | exact absurd q3 (of_decide_eq_false (by assumption))
     exact ⟨by rw [if_neg (show ¬ mayFB f = true from fun q => hn (of_decide_eq_true q))]; rfl, M57.bare.take 0⟩
    ·
     refine WS.op rfl rfl (WS.op rfl (op_lds [_, _, _, _, _, _, _, _, _, _, _, _, _, _, _, _] (M57.at 9 rfl) rfl (Nat.le_of_ble_eq_true rfl) rfl) ?_)
     refine WS.call rfl rfl rfl (refMayO_ran M57.here (o := f.o)) ?_
     rintro _ h58 ⟨rfl, N59⟩
     have M60 := M57.trans N59
     refine WS.op rfl rfl (WS.nil [(1, _), (3, _), (53, _)] rfl ?_)
     cases hb3 : (mayOB f.o)
     ·
      refine WC.condF rfl ?_
      refine WC.skip ?_
      refine WC.seq ?_
      refine WC.run ?_
      refine WS.op rfl rfl (WS.nil [(2, _)] rfl ?_)
      refine WC.ret ?_
      refine ⟨[_], (res_tmp rfl res_nil), ?_⟩
      have hn : ¬ MayF f := by
        rintro (⟨q1, q2, q3⟩ | ⟨q1, q2, q3⟩)
        · first
          | omega
          | exact absurd q2 (by assumption)
          | exact absurd q3 (of_decide_eq_false (by assumption))
        · first
          | omega
          | exact absurd (show f.c = (⟨0, 0, 0, [], [], [], [], [], 0, 0, 0, []⟩ : Cmd) from q2) (of_decide_eq_false (by assumption))
          | exact absurd q3 (of_decide_eq_false (by assumption))
      exact ⟨by rw [if_neg (show ¬ mayFB f = true from fun q => hn (of_decide_eq_true q))]; rfl, M60.bare.take 0⟩
     ·
      refine WC.condT rfl ?_
      refine WC.seq ?_
      refine WC.run ?_
      refine WS.op rfl rfl (WS.op rfl rfl (WS.op rfl (op_lds [_, _, _, _, _, _, _, _, _, _, _, _, _, _, _, _] (M60.at 9 rfl) rfl (Nat.le_of_ble_eq_true rfl) rfl) ?_))
      refine WS.call rfl rfl rfl (refWriteO_ran M60.here (o := f.o)) ?_
      rintro _ h61 ⟨rfl, N62⟩
      have M63 := M60.trans N62
      refine WS.op rfl (op_sadd (l := (((((((([f.kd] ++ [f.t0]) ++ [f.t1]) ++ [f.t2]) ++ [f.t3]) ++ [f.t4]) ++ [f.t5]) ++ [f.t6]) ++ [f.t7])) (m := (if mayOB f.o then encO f.o else [])) rfl rfl (by first | omega | (simp only [List.length_append, List.length_cons, List.length_nil]; omega))) (WS.op rfl rfl (WS.nil [(2, _)] rfl ?_))
      refine WC.ret ?_
      refine ⟨[_], (res_tmp rfl res_nil), ?_⟩
      have hM : mayOB f.o = true := by assumption
      have hZ : f.c = zeroC := of_decide_eq_true (p := f.c = (⟨0, 0, 0, [], [], [], [], [], 0, 0, 0, []⟩ : Cmd)) (by assumption)
      have hF : mayFB f = true := decide_eq_true (.inr ⟨by omega, hZ, of_decide_eq_true hM⟩)
      exact ⟨by rw [if_pos hF]; unfold encF; rw [tailF_2 (by omega), if_pos hM]; rfl, M63.bare.take 0⟩
   ·
    refine WS.op rfl rfl (WS.off rfl (WS.off rfl (WS.off rfl (WS.offC rfl (WS.op rfl rfl (WS.op rfl rfl (WS.off rfl (WS.off rfl (WS.offC rfl ?_)))))))))
    refine WS.op rfl rfl (WS.nil [(1, _), (3, _), (53, _)] rfl ?_)
    refine WC.condF rfl ?_
    refine WC.skip ?_
    refine WC.seq ?_
    refine WC.run ?_
    refine WS.op rfl rfl (WS.nil [(2, _)] rfl ?_)
    refine WC.ret ?_
    refine ⟨[_], (res_tmp rfl res_nil), ?_⟩
    have hn : ¬ MayF f := by
      rintro (⟨q1, q2, q3⟩ | ⟨q1, q2, q3⟩)
      · first
        | omega
        | exact absurd q2 (by assumption)
        | exact absurd q3 (of_decide_eq_false (by assumption))
      · first
        | omega
        | exact absurd (show f.c = (⟨0, 0, 0, [], [], [], [], [], 0, 0, 0, []⟩ : Cmd) from q2) (of_decide_eq_false (by assumption))
        | exact absurd q3 (of_decide_eq_false (by assumption))
    exact ⟨by rw [if_neg (show ¬ mayFB f = true from fun q => hn (of_decide_eq_true q))]; rfl, M30.bare.take 0⟩
end Go.Proofs.Yteikngjiaboeaaa.Wt
namespace Go.Proofs.Yteikngjiaboeaaa.Wt
open Go Go.Proofs.Yteikngjiaboeaaa.Am Go.Proofs.Yteikngjiaboeaaa.IrAll
set_option linter.unusedVariables false
set_option linter.unusedSimpArgs false
structure Rep where
  kd : UInt8
  se : UInt64
  sq : UInt64
  ld : UInt8
  r : Res
  deriving DecidableEq
def Rep.cells (p : Rep) (V : Value) : List Value := [(.int .u8 (((p.kd).toNat : Nat) : Int)), (.int .u64 (((p.se).toNat : Nat) : Int)), (.int .u64 (((p.sq).toNat : Nat) : Int)), (.int .u8 (((p.ld).toNat : Nat) : Int)), (.int .u8 (((p.r.cd).toNat : Nat) : Int)), (.int .u64 (((p.r.n).toNat : Nat) : Int)), (.string (bs p.r.va)), V]
def Rep.val (p : Rep) (V : Value) : Value := .agg (p.cells V).toArray
variable {h base : H} {L : List Seg} {R : List Nat}
def MayP (p : Rep) : Prop := (1 ≤ p.kd.toNat ∧ p.kd.toNat ≤ 6) ∧ (p.kd.toNat = 1 → p.se = 0 ∧ p.sq = 0) ∧ (p.kd.toNat ≠ 3 → p.ld = 0) ∧ (p.kd.toNat = 3 → p.ld.toNat ≤ 5) ∧ (p.kd.toNat ≠ 6 → p.r = zeroR)
instance (p : Rep) : Decidable (MayP p) := by unfold MayP; infer_instance
def mayPB (p : Rep) : Bool := decide (MayP p)
theorem mayPB_t {p : Rep} (q : MayP p) : packE [.bool true] = .bool (mayPB p) := by unfold mayPB; rw [decide_eq_true q]; rfl
theorem mayPB_f {p : Rep} (q : ¬ MayP p) : packE [.bool false] = .bool (mayPB p) := by unfold mayPB; rw [decide_eq_false q]; rfl
def lastP (p : Rep) : List UInt8 := if p.kd.toNat = 3 then [p.ld] else if p.kd.toNat = 6 then encR p.r else []
def encP (p : Rep) : List UInt8 := if p.kd.toNat = 1 then [p.kd] else ([p.kd] ++ (vb p.se.toNat ++ vb p.sq.toNat)) ++ lastP p
theorem encP_1 {p : Rep} (h : p.kd.toNat = 1) : encP p = [p.kd] := if_pos h
theorem encP_n {p : Rep} (h : p.kd.toNat ≠ 1) : encP p = ([p.kd] ++ (vb p.se.toNat ++ vb p.sq.toNat)) ++ lastP p := if_neg h
theorem encP_3 {p : Rep} (h : p.kd.toNat = 3) : encP p = ([p.kd] ++ (vb p.se.toNat ++ vb p.sq.toNat)) ++ [p.ld] := by rw [encP_n (by omega)]; unfold lastP; rw [if_pos h]
theorem encP_6 {p : Rep} (h : p.kd.toNat = 6) : encP p = ([p.kd] ++ (vb p.se.toNat ++ vb p.sq.toNat)) ++ encR p.r := by rw [encP_n (by omega)]; unfold lastP; rw [if_neg (by omega), if_pos h]
theorem encP_0 {p : Rep} (h : p.kd.toNat ≠ 1) (h3 : p.kd.toNat ≠ 3) (h6 : p.kd.toNat ≠ 6) : encP p = ([p.kd] ++ (vb p.se.toNat ++ vb p.sq.toNat)) ++ [] := by rw [encP_n h]; unfold lastP; rw [if_neg h3, if_neg h6]
theorem rep_eq {a b : Rep} (h1 : a.kd = b.kd) (h2 : a.se = b.se) (h3 : a.sq = b.sq) (h4 : a.ld = b.ld) (h5 : a.r = b.r) : a = b := by
  obtain ⟨⟩ := a; obtain ⟨⟩ := b
  simp only at *
  rw [h1, h2, h3, h4, h5]
theorem none_ran (W : Mem h h [] []) {r : Res} {V : Value} (A : KRrow.Sl h V r.rs) (hf : FitRes r) : Cll tab0 55 [r.val V] h (fun v h2 => v = .bool (decide (r = zeroR)) ∧ Mem h h2 [] []) := by
  obtain ⟨P, n, rfl⟩ := A.shape
  refine Cll.code rfl rfl ?_
  refine WC.env [(0, _)] rfl ?_
  refine WC.seq ?_
  refine WC.run ?_
  refine WS.box W [_, _, _, _] rfl rfl rfl rfl ?_
  intro p1 h2 M3
  refine WS.op rfl rfl (WS.nil [(1, _)] rfl ?_)
  refine WC.seq ?_
  refine WC.run ?_
  refine WS.op rfl rfl (WS.op rfl (op_ld (M3.at 0 rfl) rfl rfl) ?_)
  refine WS.eqlN (a := (r.cd).toNat) (b := 0) rfl rfl rfl (fun e5 => ?_) (fun e5 => ?_)
  ·
   refine WS.op rfl rfl (WS.op rfl rfl (WS.op rfl (op_ld (M3.at 0 rfl) rfl rfl) ?_))
   refine WS.eqlN (a := (r.n).toNat) (b := 0) rfl rfl rfl (fun e9 => ?_) (fun e9 => ?_)
   ·
    refine WS.op rfl rfl (WS.op rfl rfl (WS.op rfl rfl (WS.op rfl (op_ld (M3.at 0 rfl) rfl rfl) ?_)))
    refine WS.seql (l := r.va) (m := []) rfl rfl rfl (fun e14 => ?_) (fun e14 => ?_)
    ·
     refine WS.op rfl rfl (WS.op rfl rfl (WS.op rfl rfl (WS.op rfl (op_ld (M3.at 0 rfl) rfl rfl) (WS.op rfl (op_lenVS A rfl) ?_))))
     refine WS.eqlN (a := (r.rs).length) (b := 0) rfl rfl rfl (fun e20 => ?_) (fun e20 => ?_)
     ·
      refine WS.op rfl rfl (WS.op rfl rfl (WS.nil [(2, _)] rfl ?_))
      refine WC.ret ?_
      refine ⟨[_], (res_tmp rfl res_nil), ?_⟩
      exact ⟨vbt (by obtain ⟨a, b, c, d⟩ := r; unfold zeroR; simp only at *; rw [u8_0 e5, u64_0 e9, e14, List.eq_nil_of_length_eq_zero e20]), M3.bare.take 0⟩
     ·
      refine WS.op rfl rfl (WS.op rfl rfl (WS.nil [(2, _)] rfl ?_))
      refine WC.ret ?_
      refine ⟨[_], (res_tmp rfl res_nil), ?_⟩
      exact ⟨vbf (fun q => by subst q; first | exact absurd rfl e5 | exact absurd rfl e9 | exact absurd rfl e14 | exact absurd rfl e20), M3.bare.take 0⟩
    ·
     refine WS.op rfl rfl (WS.op rfl rfl (WS.off rfl (WS.off rfl (WS.off rfl (WS.off rfl (WS.op rfl rfl (WS.op rfl rfl (WS.nil [(2, _)] rfl ?_))))))))
     refine WC.ret ?_
     refine ⟨[_], (res_tmp rfl res_nil), ?_⟩
     exact ⟨vbf (fun q => by subst q; first | exact absurd rfl e5 | exact absurd rfl e9 | exact absurd rfl e14 | exact absurd rfl e20), M3.bare.take 0⟩
   ·
    refine WS.op rfl rfl (WS.op rfl rfl (WS.off rfl (WS.off rfl (WS.off rfl (WS.op rfl rfl (WS.op rfl rfl (WS.off rfl (WS.off rfl (WS.off rfl ?_)))))))))
    refine WS.off rfl (WS.op rfl rfl (WS.op rfl rfl (WS.nil [(2, _)] rfl ?_)))
    refine WC.ret ?_
    refine ⟨[_], (res_tmp rfl res_nil), ?_⟩
    exact ⟨vbf (fun q => by subst q; first | exact absurd rfl e5 | exact absurd rfl e9 | exact absurd rfl e14 | exact absurd rfl e20), M3.bare.take 0⟩
  ·
   refine WS.op rfl rfl (WS.off rfl (WS.off rfl (WS.off rfl (WS.op rfl rfl (WS.op rfl rfl (WS.off rfl (WS.off rfl (WS.off rfl (WS.op rfl rfl ?_)))))))))
   refine WS.op rfl rfl (WS.off rfl (WS.off rfl (WS.off rfl (WS.off rfl (WS.op rfl rfl (WS.op rfl rfl (WS.nil [(2, _)] rfl ?_)))))))
   refine WC.ret ?_
   refine ⟨[_], (res_tmp rfl res_nil), ?_⟩
   exact ⟨vbf (fun q => by subst q; first | exact absurd rfl e5 | exact absurd rfl e9 | exact absurd rfl e14 | exact absurd rfl e20), M3.bare.take 0⟩
set_option maxRecDepth 8000 in
theorem mayP_ran (W : Mem h h [] []) {p : Rep} {V : Value} (A : KRrow.Sl h V p.r.rs) (hf : FitRes p.r) : Cll tab0 28 [p.val V] h (fun v h2 => v = .bool (mayPB p) ∧ Mem h h2 [] []) := by
  obtain ⟨P, n, rfl⟩ := A.shape
  refine Cll.code rfl rfl ?_
  refine WC.env [(0, _)] rfl ?_
  refine WC.seq ?_
  refine WC.run ?_
  refine WS.box W [_, _, _, _, _, _, _, _] rfl rfl rfl rfl ?_
  intro p1 h2 M3
  refine WS.op rfl rfl (WS.nil [(1, _)] rfl ?_)
  refine WC.seq ?_
  refine WC.draw M3 [] rfl ?_
  intro rb4 h5 M6
  refine WS.op rfl rfl (WS.op rfl (op_ld (M6.at 0 rfl) rfl rfl) ?_)
  refine WS.eqlN (a := (p.ld).toNat) (b := 0) rfl rfl rfl (fun e7 => ?_) (fun e7 => ?_)
  ·
   refine WS.op rfl rfl (WS.op rfl (op_lds [_, _, _, _] (M6.at 0 rfl) rfl (Nat.le_of_ble_eq_true rfl) rfl) ?_)
   refine WS.call rfl rfl rfl (none_ran M6.here (r := p.r) (A.mono M6.sub) (by assumption)) ?_
   rintro _ h7 ⟨rfl, N8⟩
   have M9 := M6.trans N8
   refine WS.chk rfl (op_ld (M9.at 0 rfl) rfl rfl) rfl (sameV_refl rfl) (WS.op rfl rfl (WS.op rfl rfl (WS.nil [(1, _), (3, _), (4, _)] rfl ?_)))
   refine WC.seq ?_
   refine WC.seq ?_
   refine WC.run ?_
   refine WS.op rfl rfl (WS.op rfl (op_ld (M9.bare.at 0 rfl) rfl rfl) (WS.nil [(1, _), (3, _), (4, _), (12, _)] rfl ?_))
   refine WC.block ?_
   refine WC.seq ?_
   refine WC.run ?_
   refine WS.eqlN (a := (p.kd).toNat) (b := 1) rfl rfl rfl (fun e14 => ?_) (fun e14 => ?_)
   ·
    refine WS.op rfl rfl (WS.nil [(1, _), (3, _), (4, _), (12, _), (13, _)] rfl ?_)
    refine WC.condT rfl ?_
    refine WC.seq ?_
    refine WC.run ?_
    refine WS.op rfl rfl (WS.op rfl rfl (WS.op rfl rfl (WS.op rfl rfl (WS.op rfl rfl ?_))))
    cases hb1 : (decide (p.r = zeroR))
    ·
     refine WS.off rfl (WS.off rfl (WS.off rfl (WS.op rfl rfl (WS.op rfl rfl (WS.off rfl (WS.off rfl (WS.off rfl (WS.op rfl rfl (WS.op rfl rfl ?_)))))))))
     refine WS.nil [(2, _)] rfl ?_
     refine WC.ret ?_
     refine ⟨[_], (res_tmp rfl res_nil), ?_⟩
     exact ⟨mayPB_f (by rintro ⟨q1, q2, q3, q4, q5⟩; first | omega | (have := q4 (by omega); omega) | exact absurd (q5 (by omega)) (of_decide_eq_false (by assumption)) | (have := q3 (by omega); rw [this] at e7; exact absurd rfl e7) | (have := (q2 (by omega)).1; rw [this] at e22; exact absurd rfl e22) | (have := (q2 (by omega)).2; rw [this] at e27; exact absurd rfl e27)), M9.bare.bare.take 0⟩
    ·
     refine WS.op rfl rfl (WS.op rfl (op_ld (M9.bare.at 0 rfl) rfl rfl) ?_)
     refine WS.eqlN (a := (p.se).toNat) (b := 0) rfl rfl rfl (fun e22 => ?_) (fun e22 => ?_)
     ·
      refine WS.op rfl rfl (WS.op rfl rfl (WS.op rfl rfl (WS.op rfl (op_ld (M9.bare.at 0 rfl) rfl rfl) ?_)))
      refine WS.eqlN (a := (p.sq).toNat) (b := 0) rfl rfl rfl (fun e27 => ?_) (fun e27 => ?_)
      ·
       refine WS.op rfl rfl (WS.op rfl rfl (WS.nil [(2, _)] rfl ?_))
       refine WC.ret ?_
       refine ⟨[_], (res_tmp rfl res_nil), ?_⟩
       refine ⟨mayPB_t ⟨by omega, fun q => ?_, fun q => ?_, fun q => ?_, fun q => ?_⟩, M9.bare.bare.take 0⟩
       · first | (exfalso; omega) | exact ⟨u64_0 e22, u64_0 e27⟩
       · first | (exfalso; omega) | exact u8_0 (by omega)
       · omega
       · first | (exfalso; omega) | exact of_decide_eq_true (by assumption)
      ·
       refine WS.op rfl rfl (WS.op rfl rfl (WS.nil [(2, _)] rfl ?_))
       refine WC.ret ?_
       refine ⟨[_], (res_tmp rfl res_nil), ?_⟩
       exact ⟨mayPB_f (by rintro ⟨q1, q2, q3, q4, q5⟩; first | omega | (have := q4 (by omega); omega) | exact absurd (q5 (by omega)) (of_decide_eq_false (by assumption)) | (have := q3 (by omega); rw [this] at e7; exact absurd rfl e7) | (have := (q2 (by omega)).1; rw [this] at e22; exact absurd rfl e22) | (have := (q2 (by omega)).2; rw [this] at e27; exact absurd rfl e27)), M9.bare.bare.take 0⟩
     ·
      refine WS.op rfl rfl (WS.op rfl rfl (WS.off rfl (WS.off rfl (WS.off rfl (WS.op rfl rfl (WS.op rfl rfl (WS.nil [(2, _)] rfl ?_)))))))
      refine WC.ret ?_
      refine ⟨[_], (res_tmp rfl res_nil), ?_⟩
      exact ⟨mayPB_f (by rintro ⟨q1, q2, q3, q4, q5⟩; first | omega | (have := q4 (by omega); omega) | exact absurd (q5 (by omega)) (of_decide_eq_false (by assumption)) | (have := q3 (by omega); rw [this] at e7; exact absurd rfl e7) | (have := (q2 (by omega)).1; rw [this] at e22; exact absurd rfl e22) | (have := (q2 (by omega)).2; rw [this] at e27; exact absurd rfl e27)), M9.bare.bare.take 0⟩
   ·
    refine WS.op rfl rfl (WS.nil [(1, _), (3, _), (4, _), (12, _), (13, _)] rfl ?_)
    refine WC.condF rfl ?_
    refine WC.seq ?_
    refine WC.seq ?_
    refine WC.run ?_
    refine WS.eqlN (a := (p.kd).toNat) (b := 2) rfl rfl rfl (fun e30 => ?_) (fun e30 => ?_)
    ·
     refine WS.op rfl rfl (WS.nil [(1, _), (3, _), (4, _), (12, _), (29, _)] rfl ?_)
     refine WC.condT rfl ?_
     refine WC.skip ?_
     refine WC.condT rfl ?_
     refine WC.seq ?_
     refine WC.run ?_
     refine WS.op rfl rfl (WS.op rfl rfl (WS.op rfl rfl (WS.op rfl rfl (WS.op rfl rfl (WS.nil [(2, _)] rfl ?_)))))
     refine WC.ret ?_
     cases hb1 : (decide (p.r = zeroR))
     ·
      refine ⟨[_], (res_tmp rfl res_nil), ?_⟩
      exact ⟨mayPB_f (by rintro ⟨q1, q2, q3, q4, q5⟩; first | omega | (have := q4 (by omega); omega) | exact absurd (q5 (by omega)) (of_decide_eq_false (by assumption)) | (have := q3 (by omega); rw [this] at e7; exact absurd rfl e7) | (have := (q2 (by omega)).1; rw [this] at e22; exact absurd rfl e22) | (have := (q2 (by omega)).2; rw [this] at e27; exact absurd rfl e27)), M9.bare.bare.take 0⟩
     ·
      refine ⟨[_], (res_tmp rfl res_nil), ?_⟩
      refine ⟨mayPB_t ⟨by omega, fun q => ?_, fun q => ?_, fun q => ?_, fun q => ?_⟩, M9.bare.bare.take 0⟩
      · first | (exfalso; omega) | exact ⟨u64_0 e22, u64_0 e27⟩
      · first | (exfalso; omega) | exact u8_0 (by omega)
      · omega
      · first | (exfalso; omega) | exact of_decide_eq_true (by assumption)
    ·
     refine WS.op rfl rfl (WS.nil [(1, _), (3, _), (4, _), (12, _), (29, _)] rfl ?_)
     refine WC.condF rfl ?_
     refine WC.seq ?_
     refine WC.run ?_
     refine WS.eqlN (a := (p.kd).toNat) (b := 4) rfl rfl rfl (fun e31 => ?_) (fun e31 => ?_)
     ·
      refine WS.op rfl rfl (WS.nil [(1, _), (3, _), (4, _), (12, _), (29, _)] rfl ?_)
      refine WC.condT rfl ?_
      refine WC.skip ?_
      refine WC.condT rfl ?_
      refine WC.seq ?_
      refine WC.run ?_
      refine WS.op rfl rfl (WS.op rfl rfl (WS.op rfl rfl (WS.op rfl rfl (WS.op rfl rfl (WS.nil [(2, _)] rfl ?_)))))
      refine WC.ret ?_
      cases hb1 : (decide (p.r = zeroR))
      ·
       refine ⟨[_], (res_tmp rfl res_nil), ?_⟩
       exact ⟨mayPB_f (by rintro ⟨q1, q2, q3, q4, q5⟩; first | omega | (have := q4 (by omega); omega) | exact absurd (q5 (by omega)) (of_decide_eq_false (by assumption)) | (have := q3 (by omega); rw [this] at e7; exact absurd rfl e7) | (have := (q2 (by omega)).1; rw [this] at e22; exact absurd rfl e22) | (have := (q2 (by omega)).2; rw [this] at e27; exact absurd rfl e27)), M9.bare.bare.take 0⟩
      ·
       refine ⟨[_], (res_tmp rfl res_nil), ?_⟩
       refine ⟨mayPB_t ⟨by omega, fun q => ?_, fun q => ?_, fun q => ?_, fun q => ?_⟩, M9.bare.bare.take 0⟩
       · first | (exfalso; omega) | exact ⟨u64_0 e22, u64_0 e27⟩
       · first | (exfalso; omega) | exact u8_0 (by omega)
       · omega
       · first | (exfalso; omega) | exact of_decide_eq_true (by assumption)
     ·
      refine WS.op rfl rfl (WS.nil [(1, _), (3, _), (4, _), (12, _), (29, _)] rfl ?_)
      refine WC.condF rfl ?_
      refine WC.run ?_
      refine WS.eqlN (a := (p.kd).toNat) (b := 5) rfl rfl rfl (fun e32 => ?_) (fun e32 => ?_)
      ·
       refine WS.op rfl rfl (WS.nil [(1, _), (3, _), (4, _), (12, _), (29, _)] rfl ?_)
       refine WC.condT rfl ?_
       refine WC.seq ?_
       refine WC.run ?_
       refine WS.op rfl rfl (WS.op rfl rfl (WS.op rfl rfl (WS.op rfl rfl (WS.op rfl rfl (WS.nil [(2, _)] rfl ?_)))))
       refine WC.ret ?_
       cases hb1 : (decide (p.r = zeroR))
       ·
        refine ⟨[_], (res_tmp rfl res_nil), ?_⟩
        exact ⟨mayPB_f (by rintro ⟨q1, q2, q3, q4, q5⟩; first | omega | (have := q4 (by omega); omega) | exact absurd (q5 (by omega)) (of_decide_eq_false (by assumption)) | (have := q3 (by omega); rw [this] at e7; exact absurd rfl e7) | (have := (q2 (by omega)).1; rw [this] at e22; exact absurd rfl e22) | (have := (q2 (by omega)).2; rw [this] at e27; exact absurd rfl e27)), M9.bare.bare.take 0⟩
       ·
        refine ⟨[_], (res_tmp rfl res_nil), ?_⟩
        refine ⟨mayPB_t ⟨by omega, fun q => ?_, fun q => ?_, fun q => ?_, fun q => ?_⟩, M9.bare.bare.take 0⟩
        · first | (exfalso; omega) | exact ⟨u64_0 e22, u64_0 e27⟩
        · first | (exfalso; omega) | exact u8_0 (by omega)
        · omega
        · first | (exfalso; omega) | exact of_decide_eq_true (by assumption)
      ·
       refine WS.op rfl rfl (WS.nil [(1, _), (3, _), (4, _), (12, _), (29, _)] rfl ?_)
       refine WC.condF rfl ?_
       refine WC.seq ?_
       refine WC.run ?_
       refine WS.eqlN (a := (p.kd).toNat) (b := 3) rfl rfl rfl (fun e38 => ?_) (fun e38 => ?_)
       ·
        refine WS.op rfl rfl (WS.nil [(1, _), (3, _), (4, _), (37, _)] rfl ?_)
        refine WC.condT rfl ?_
        refine WC.seq ?_
        refine WC.run ?_
        refine WS.op rfl rfl (WS.op rfl (op_ld (M9.bare.at 0 rfl) rfl rfl) ?_)
        refine WS.leqN (a := (p.ld).toNat) (b := 5) rfl rfl rfl (fun e41 => ?_) (fun e41 => ?_)
        ·
         refine WS.op rfl rfl (WS.op rfl rfl (WS.op rfl rfl (WS.op rfl rfl (WS.nil [(2, _)] rfl ?_))))
         refine WC.ret ?_
         cases hb1 : (decide (p.r = zeroR))
         ·
          refine ⟨[_], (res_tmp rfl res_nil), ?_⟩
          exact ⟨mayPB_f (by rintro ⟨q1, q2, q3, q4, q5⟩; first | omega | (have := q4 (by omega); omega) | exact absurd (q5 (by omega)) (of_decide_eq_false (by assumption)) | (have := q3 (by omega); rw [this] at e7; exact absurd rfl e7) | (have := (q2 (by omega)).1; rw [this] at e22; exact absurd rfl e22) | (have := (q2 (by omega)).2; rw [this] at e27; exact absurd rfl e27)), M9.bare.bare.take 0⟩
         ·
          refine ⟨[_], (res_tmp rfl res_nil), ?_⟩
          refine ⟨mayPB_t ⟨by omega, fun q => ?_, fun q => ?_, fun q => ?_, fun q => ?_⟩, M9.bare.bare.take 0⟩
          · first | (exfalso; omega) | exact ⟨u64_0 e22, u64_0 e27⟩
          · first | (exfalso; omega) | exact u8_0 (by omega)
          · omega
          · first | (exfalso; omega) | exact of_decide_eq_true (by assumption)
        ·
         refine WS.op rfl rfl (WS.off rfl (WS.op rfl rfl (WS.op rfl rfl (WS.nil [(2, _)] rfl ?_))))
         refine WC.ret ?_
         refine ⟨[_], (res_tmp rfl res_nil), ?_⟩
         exact ⟨mayPB_f (by rintro ⟨q1, q2, q3, q4, q5⟩; first | omega | (have := q4 (by omega); omega) | exact absurd (q5 (by omega)) (of_decide_eq_false (by assumption)) | (have := q3 (by omega); rw [this] at e7; exact absurd rfl e7) | (have := (q2 (by omega)).1; rw [this] at e22; exact absurd rfl e22) | (have := (q2 (by omega)).2; rw [this] at e27; exact absurd rfl e27)), M9.bare.bare.take 0⟩
       ·
        refine WS.op rfl rfl (WS.nil [(1, _), (3, _), (4, _), (37, _)] rfl ?_)
        refine WC.condF rfl ?_
        refine WC.skip ?_
        refine WC.seq ?_
        refine WC.run ?_
        refine WS.op rfl rfl (WS.op rfl (op_ld (M9.bare.at 0 rfl) rfl rfl) ?_)
        refine WS.eqlN (a := (p.kd).toNat) (b := 6) rfl rfl rfl (fun e47 => ?_) (fun e47 => ?_)
        ·
         refine WS.op rfl rfl (WS.op rfl rfl (WS.op rfl rfl (WS.op rfl rfl (WS.nil [(2, _)] rfl ?_))))
         refine WC.ret ?_
         refine ⟨[_], (res_tmp rfl res_nil), ?_⟩
         refine ⟨mayPB_t ⟨by omega, fun q => ?_, fun q => ?_, fun q => ?_, fun q => ?_⟩, M9.bare.bare.take 0⟩
         · first | (exfalso; omega) | exact ⟨u64_0 e22, u64_0 e27⟩
         · first | (exfalso; omega) | exact u8_0 (by omega)
         · omega
         · first | (exfalso; omega) | exact of_decide_eq_true (by assumption)
        ·
         refine WS.op rfl rfl (WS.off rfl (WS.op rfl rfl (WS.op rfl rfl (WS.nil [(2, _)] rfl ?_))))
         refine WC.ret ?_
         refine ⟨[_], (res_tmp rfl res_nil), ?_⟩
         exact ⟨mayPB_f (by rintro ⟨q1, q2, q3, q4, q5⟩; first | omega | (have := q4 (by omega); omega) | exact absurd (q5 (by omega)) (of_decide_eq_false (by assumption)) | (have := q3 (by omega); rw [this] at e7; exact absurd rfl e7) | (have := (q2 (by omega)).1; rw [this] at e22; exact absurd rfl e22) | (have := (q2 (by omega)).2; rw [this] at e27; exact absurd rfl e27)), M9.bare.bare.take 0⟩
  ·
   refine WS.op rfl rfl (WS.op rfl (op_lds [_, _, _, _] (M6.at 0 rfl) rfl (Nat.le_of_ble_eq_true rfl) rfl) ?_)
   refine WS.call rfl rfl rfl (none_ran M6.here (r := p.r) (A.mono M6.sub) (by assumption)) ?_
   rintro _ h10 ⟨rfl, N11⟩
   have M12 := M6.trans N11
   refine WS.chk rfl (op_ld (M12.at 0 rfl) rfl rfl) rfl (sameV_refl rfl) (WS.op rfl rfl (WS.op rfl rfl (WS.nil [(1, _), (3, _), (4, _)] rfl ?_)))
   refine WC.seq ?_
   refine WC.seq ?_
   refine WC.run ?_
   refine WS.op rfl rfl (WS.op rfl (op_ld (M12.bare.at 0 rfl) rfl rfl) (WS.nil [(1, _), (3, _), (4, _), (12, _)] rfl ?_))
   refine WC.block ?_
   refine WC.seq ?_
   refine WC.run ?_
   refine WS.eqlN (a := (p.kd).toNat) (b := 1) rfl rfl rfl (fun e14 => ?_) (fun e14 => ?_)
   ·
    refine WS.op rfl rfl (WS.nil [(1, _), (3, _), (4, _), (12, _), (13, _)] rfl ?_)
    refine WC.condT rfl ?_
    refine WC.seq ?_
    refine WC.run ?_
    refine WS.op rfl rfl (WS.op rfl rfl (WS.off rfl (WS.op rfl rfl (WS.op rfl rfl (WS.off rfl (WS.off rfl (WS.off rfl (WS.op rfl rfl (WS.op rfl rfl ?_)))))))))
    refine WS.off rfl (WS.off rfl (WS.off rfl (WS.op rfl rfl (WS.op rfl rfl (WS.nil [(2, _)] rfl ?_)))))
    refine WC.ret ?_
    refine ⟨[_], (res_tmp rfl res_nil), ?_⟩
    exact ⟨mayPB_f (by rintro ⟨q1, q2, q3, q4, q5⟩; first | omega | (have := q4 (by omega); omega) | exact absurd (q5 (by omega)) (of_decide_eq_false (by assumption)) | (have := q3 (by omega); rw [this] at e7; exact absurd rfl e7) | (have := (q2 (by omega)).1; rw [this] at e22; exact absurd rfl e22) | (have := (q2 (by omega)).2; rw [this] at e27; exact absurd rfl e27)), M12.bare.bare.take 0⟩
   ·
    refine WS.op rfl rfl (WS.nil [(1, _), (3, _), (4, _), (12, _), (13, _)] rfl ?_)
    refine WC.condF rfl ?_
    refine WC.seq ?_
    refine WC.seq ?_
    refine WC.run ?_
    refine WS.eqlN (a := (p.kd).toNat) (b := 2) rfl rfl rfl (fun e30 => ?_) (fun e30 => ?_)
    ·
     refine WS.op rfl rfl (WS.nil [(1, _), (3, _), (4, _), (12, _), (29, _)] rfl ?_)
     refine WC.condT rfl ?_
     refine WC.skip ?_
     refine WC.condT rfl ?_
     refine WC.seq ?_
     refine WC.run ?_
     refine WS.op rfl rfl (WS.op rfl rfl (WS.off rfl (WS.op rfl rfl (WS.op rfl rfl (WS.nil [(2, _)] rfl ?_)))))
     refine WC.ret ?_
     refine ⟨[_], (res_tmp rfl res_nil), ?_⟩
     exact ⟨mayPB_f (by rintro ⟨q1, q2, q3, q4, q5⟩; first | omega | (have := q4 (by omega); omega) | exact absurd (q5 (by omega)) (of_decide_eq_false (by assumption)) | (have := q3 (by omega); rw [this] at e7; exact absurd rfl e7) | (have := (q2 (by omega)).1; rw [this] at e22; exact absurd rfl e22) | (have := (q2 (by omega)).2; rw [this] at e27; exact absurd rfl e27)), M12.bare.bare.take 0⟩
    ·
     refine WS.op rfl rfl (WS.nil [(1, _), (3, _), (4, _), (12, _), (29, _)] rfl ?_)
     refine WC.condF rfl ?_
     refine WC.seq ?_
     refine WC.run ?_
     refine WS.eqlN (a := (p.kd).toNat) (b := 4) rfl rfl rfl (fun e31 => ?_) (fun e31 => ?_)
     ·
      refine WS.op rfl rfl (WS.nil [(1, _), (3, _), (4, _), (12, _), (29, _)] rfl ?_)
      refine WC.condT rfl ?_
      refine WC.skip ?_
      refine WC.condT rfl ?_
      refine WC.seq ?_
      refine WC.run ?_
      refine WS.op rfl rfl (WS.op rfl rfl (WS.off rfl (WS.op rfl rfl (WS.op rfl rfl (WS.nil [(2, _)] rfl ?_)))))
      refine WC.ret ?_
      refine ⟨[_], (res_tmp rfl res_nil), ?_⟩
      exact ⟨mayPB_f (by rintro ⟨q1, q2, q3, q4, q5⟩; first | omega | (have := q4 (by omega); omega) | exact absurd (q5 (by omega)) (of_decide_eq_false (by assumption)) | (have := q3 (by omega); rw [this] at e7; exact absurd rfl e7) | (have := (q2 (by omega)).1; rw [this] at e22; exact absurd rfl e22) | (have := (q2 (by omega)).2; rw [this] at e27; exact absurd rfl e27)), M12.bare.bare.take 0⟩
     ·
      refine WS.op rfl rfl (WS.nil [(1, _), (3, _), (4, _), (12, _), (29, _)] rfl ?_)
      refine WC.condF rfl ?_
      refine WC.run ?_
      refine WS.eqlN (a := (p.kd).toNat) (b := 5) rfl rfl rfl (fun e32 => ?_) (fun e32 => ?_)
      ·
       refine WS.op rfl rfl (WS.nil [(1, _), (3, _), (4, _), (12, _), (29, _)] rfl ?_)
       refine WC.condT rfl ?_
       refine WC.seq ?_
       refine WC.run ?_
       refine WS.op rfl rfl (WS.op rfl rfl (WS.off rfl (WS.op rfl rfl (WS.op rfl rfl (WS.nil [(2, _)] rfl ?_)))))
       refine WC.ret ?_
       refine ⟨[_], (res_tmp rfl res_nil), ?_⟩
       exact ⟨mayPB_f (by rintro ⟨q1, q2, q3, q4, q5⟩; first | omega | (have := q4 (by omega); omega) | exact absurd (q5 (by omega)) (of_decide_eq_false (by assumption)) | (have := q3 (by omega); rw [this] at e7; exact absurd rfl e7) | (have := (q2 (by omega)).1; rw [this] at e22; exact absurd rfl e22) | (have := (q2 (by omega)).2; rw [this] at e27; exact absurd rfl e27)), M12.bare.bare.take 0⟩
      ·
       refine WS.op rfl rfl (WS.nil [(1, _), (3, _), (4, _), (12, _), (29, _)] rfl ?_)
       refine WC.condF rfl ?_
       refine WC.seq ?_
       refine WC.run ?_
       refine WS.eqlN (a := (p.kd).toNat) (b := 3) rfl rfl rfl (fun e38 => ?_) (fun e38 => ?_)
       ·
        refine WS.op rfl rfl (WS.nil [(1, _), (3, _), (4, _), (37, _)] rfl ?_)
        refine WC.condT rfl ?_
        refine WC.seq ?_
        refine WC.run ?_
        refine WS.op rfl rfl (WS.op rfl (op_ld (M12.bare.at 0 rfl) rfl rfl) ?_)
        refine WS.leqN (a := (p.ld).toNat) (b := 5) rfl rfl rfl (fun e41 => ?_) (fun e41 => ?_)
        ·
         refine WS.op rfl rfl (WS.op rfl rfl (WS.op rfl rfl (WS.op rfl rfl (WS.nil [(2, _)] rfl ?_))))
         refine WC.ret ?_
         cases hb1 : (decide (p.r = zeroR))
         ·
          refine ⟨[_], (res_tmp rfl res_nil), ?_⟩
          exact ⟨mayPB_f (by rintro ⟨q1, q2, q3, q4, q5⟩; first | omega | (have := q4 (by omega); omega) | exact absurd (q5 (by omega)) (of_decide_eq_false (by assumption)) | (have := q3 (by omega); rw [this] at e7; exact absurd rfl e7) | (have := (q2 (by omega)).1; rw [this] at e22; exact absurd rfl e22) | (have := (q2 (by omega)).2; rw [this] at e27; exact absurd rfl e27)), M12.bare.bare.take 0⟩
         ·
          refine ⟨[_], (res_tmp rfl res_nil), ?_⟩
          refine ⟨mayPB_t ⟨by omega, fun q => ?_, fun q => ?_, fun q => ?_, fun q => ?_⟩, M12.bare.bare.take 0⟩
          · first | (exfalso; omega) | exact ⟨u64_0 e22, u64_0 e27⟩
          · first | (exfalso; omega) | exact u8_0 (by omega)
          · omega
          · first | (exfalso; omega) | exact of_decide_eq_true (by assumption)
        ·
         refine WS.op rfl rfl (WS.off rfl (WS.op rfl rfl (WS.op rfl rfl (WS.nil [(2, _)] rfl ?_))))
         refine WC.ret ?_
         refine ⟨[_], (res_tmp rfl res_nil), ?_⟩
         exact ⟨mayPB_f (by rintro ⟨q1, q2, q3, q4, q5⟩; first | omega | (have := q4 (by omega); omega) | exact absurd (q5 (by omega)) (of_decide_eq_false (by assumption)) | (have := q3 (by omega); rw [this] at e7; exact absurd rfl e7) | (have := (q2 (by omega)).1; rw [this] at e22; exact absurd rfl e22) | (have := (q2 (by omega)).2; rw [this] at e27; exact absurd rfl e27)), M12.bare.bare.take 0⟩
       ·
        refine WS.op rfl rfl (WS.nil [(1, _), (3, _), (4, _), (37, _)] rfl ?_)
        refine WC.condF rfl ?_
        refine WC.skip ?_
        refine WC.seq ?_
        refine WC.run ?_
        refine WS.op rfl rfl (WS.op rfl (op_ld (M12.bare.at 0 rfl) rfl rfl) ?_)
        refine WS.eqlN (a := (p.kd).toNat) (b := 6) rfl rfl rfl (fun e47 => ?_) (fun e47 => ?_)
        ·
         refine WS.op rfl rfl (WS.op rfl rfl (WS.op rfl rfl (WS.op rfl rfl (WS.nil [(2, _)] rfl ?_))))
         refine WC.ret ?_
         refine ⟨[_], (res_tmp rfl res_nil), ?_⟩
         exact ⟨mayPB_f (by rintro ⟨q1, q2, q3, q4, q5⟩; first | omega | (have := q4 (by omega); omega) | exact absurd (q5 (by omega)) (of_decide_eq_false (by assumption)) | (have := q3 (by omega); rw [this] at e7; exact absurd rfl e7) | (have := (q2 (by omega)).1; rw [this] at e22; exact absurd rfl e22) | (have := (q2 (by omega)).2; rw [this] at e27; exact absurd rfl e27)), M12.bare.bare.take 0⟩
        ·
         refine WS.op rfl rfl (WS.off rfl (WS.op rfl rfl (WS.op rfl rfl (WS.nil [(2, _)] rfl ?_))))
         refine WC.ret ?_
         refine ⟨[_], (res_tmp rfl res_nil), ?_⟩
         exact ⟨mayPB_f (by rintro ⟨q1, q2, q3, q4, q5⟩; first | omega | (have := q4 (by omega); omega) | exact absurd (q5 (by omega)) (of_decide_eq_false (by assumption)) | (have := q3 (by omega); rw [this] at e7; exact absurd rfl e7) | (have := (q2 (by omega)).1; rw [this] at e22; exact absurd rfl e22) | (have := (q2 (by omega)).2; rw [this] at e27; exact absurd rfl e27)), M12.bare.bare.take 0⟩
set_option maxRecDepth 8000 in
theorem WriteP_ran (W : Mem h h [] []) {p : Rep} {V : Value} (A : KRrow.Sl h V p.r.rs) (hf : FitRes p.r) : Cll tab0 11 [p.val V] h (fun v h2 => v = .string (bs (if mayPB p then encP p else [])) ∧ Mem h h2 [] []) := by
  obtain ⟨P, n, rfl⟩ := A.shape
  have v1 := vb_len p.se.toNat_lt
  have v2 := vb_len p.sq.toNat_lt
  have u1 := p.se.toNat_lt
  have u2 := p.sq.toNat_lt
  have hr := encR_lenF hf
  refine Cll.code rfl rfl ?_
  refine WC.env [(0, _)] rfl ?_
  refine WC.seq ?_
  refine WC.run ?_
  refine WS.box W [_, _, _, _, _, _, _, _] rfl rfl rfl rfl ?_
  intro p1 h2 M3
  refine WS.op rfl rfl (WS.nil [(1, _)] rfl ?_)
  refine WC.seq ?_
  refine WC.seq ?_
  refine WC.run ?_
  refine WS.op rfl (op_lds [_, _, _, _, _, _, _, _] (M3.at 0 rfl) rfl (Nat.le_of_ble_eq_true rfl) rfl) ?_
  refine WS.call rfl rfl rfl (mayP_ran M3.here (p := p) (A.mono M3.sub) (by exact hf)) ?_
  rintro _ h4 ⟨rfl, N5⟩
  have M6 := M3.trans N5
  cases hb1 : (mayPB p)
  ·
   refine WS.opV (.bool true) rfl rfl rfl (WS.nil [(1, _), (6, _)] rfl ?_)
   refine WC.condT rfl ?_
   refine WC.seq ?_
   refine WC.run ?_
   refine WS.op rfl rfl (WS.nil [(2, _)] rfl ?_)
   refine WC.ret ?_
   refine ⟨[_], (res_tmp rfl res_nil), ?_⟩
   exact ⟨rfl, M6.bare.take 0⟩
  ·
   refine WS.opV (.bool false) rfl rfl rfl (WS.nil [(1, _), (6, _)] rfl ?_)
   refine WC.condF rfl ?_
   refine WC.skip ?_
   refine WC.seq ?_
   refine WC.run ?_
   refine WS.op rfl rfl (WS.op rfl (op_ld (M6.at 0 rfl) rfl rfl) ?_)
   refine WS.bsl M6 [_] rfl rfl rfl rfl ?_
   intro p7 h8 M9
   refine WS.op rfl (op_cvB (l := [p.kd]) (M9.at 0 rfl) rfl rfl (Nat.le_of_ble_eq_true rfl) rfl) (WS.op rfl rfl (WS.nil [(1, _), (3, _)] rfl ?_))
   refine WC.seq ?_
   refine WC.seq ?_
   refine WC.run ?_
   refine WS.op rfl rfl (WS.op rfl (op_ld (M9.at 1 rfl) rfl rfl) ?_)
   refine WS.eqlN (a := (p.kd).toNat) (b := 1) rfl rfl rfl (fun e13 => ?_) (fun e13 => ?_)
   ·
    refine WS.nil [(1, _), (3, _), (13, _)] rfl ?_
    refine WC.condT rfl ?_
    refine WC.seq ?_
    refine WC.run ?_
    refine WS.op rfl rfl (WS.op rfl rfl (WS.nil [(2, _)] rfl ?_))
    refine WC.ret ?_
    refine ⟨[_], (res_tmp rfl res_nil), ?_⟩
    have q3 : encP p = [p.kd] := by first | (exfalso; omega) | (rw [encP_1 (by omega)]; done) | (rw [encP_3 (by omega)]; done) | (rw [encP_6 (by omega)]; done) | (rw [encP_0 (by omega) (by omega) (by omega), List.append_nil]; done)
    exact ⟨by rw [if_pos rfl, q3]; rfl, M9.bare.take 0⟩
   ·
    refine WS.nil [(1, _), (3, _), (13, _)] rfl ?_
    refine WC.condF rfl ?_
    refine WC.skip ?_
    refine WC.seq ?_
    refine WC.run ?_
    refine WS.op rfl rfl (WS.op rfl rfl (WS.op rfl (op_ld (M9.at 1 rfl) rfl rfl) (WS.op rfl rfl (WS.op rfl (op_ld (M9.at 1 rfl) rfl rfl) ?_))))
    refine WS.bsl M9 [_, _] rfl rfl rfl rfl ?_
    intro p10 h11 M12
    refine WS.call rfl rfl rfl (num_V_ran M12.here (Row.Sl.own (K := KNat) (l := [(p.se).toNat, (p.sq).toNat]) (M12.at 0 rfl)) (by intro n hn; simp only [List.mem_cons, List.mem_nil_iff, or_false] at hn; omega) (by simp) (r := ((vb ((p.se).toNat)) ++ (vb ((p.sq).toNat)))) (by simp [List.flatMap])) ?_
    rintro _ h13 ⟨rfl, N14⟩
    have M15 := M12.trans N14
    refine WS.op rfl (op_sadd (l := [p.kd]) (m := ((vb ((p.se).toNat)) ++ (vb ((p.sq).toNat)))) rfl rfl (by first | omega | (simp only [List.length_append, List.length_cons, List.length_nil]; omega))) (WS.op rfl rfl (WS.nil [(1, _), (3, _)] rfl ?_))
    refine WC.seq ?_
    refine WC.seq ?_
    refine WC.run ?_
    refine WS.op rfl rfl (WS.op rfl (op_ld (M15.at 2 rfl) rfl rfl) (WS.nil [(1, _), (3, _), (24, _)] rfl ?_))
    refine WC.block ?_
    refine WC.seq ?_
    refine WC.run ?_
    refine WS.eqlN (a := (p.kd).toNat) (b := 3) rfl rfl rfl (fun e26 => ?_) (fun e26 => ?_)
    ·
     refine WS.op rfl rfl (WS.nil [(1, _), (3, _), (24, _), (25, _)] rfl ?_)
     refine WC.condT rfl ?_
     refine WC.run ?_
     refine WS.op rfl rfl (WS.op rfl rfl (WS.op rfl (op_ld (M15.at 2 rfl) rfl rfl) ?_))
     refine WS.bsl M15 [_] rfl rfl rfl rfl ?_
     intro p16 h17 M18
     refine WS.op rfl (op_cvB (l := [p.ld]) (M18.at 0 rfl) rfl rfl (Nat.le_of_ble_eq_true rfl) rfl) (WS.op rfl (op_sadd (l := ([p.kd] ++ ((vb ((p.se).toNat)) ++ (vb ((p.sq).toNat))))) (m := [p.ld]) rfl rfl (by first | omega | (simp only [List.length_append, List.length_cons, List.length_nil]; omega))) (WS.op rfl rfl (WS.nil [(3, _)] rfl ?_)))
     refine WC.seq ?_
     refine WC.run ?_
     refine WS.op rfl rfl (WS.op rfl rfl (WS.nil [(2, _)] rfl ?_))
     refine WC.ret ?_
     refine ⟨[_], (res_tmp rfl res_nil), ?_⟩
     have q3 : encP p = (([p.kd] ++ ((vb ((p.se).toNat)) ++ (vb ((p.sq).toNat)))) ++ [p.ld]) := by first | (exfalso; omega) | (rw [encP_1 (by omega)]; done) | (rw [encP_3 (by omega)]; done) | (rw [encP_6 (by omega)]; done) | (rw [encP_0 (by omega) (by omega) (by omega), List.append_nil]; done)
     exact ⟨by rw [if_pos rfl, q3]; rfl, M18.bare.take 0⟩
    ·
     refine WS.op rfl rfl (WS.nil [(1, _), (3, _), (24, _), (25, _)] rfl ?_)
     refine WC.condF rfl ?_
     refine WC.seq ?_
     refine WC.run ?_
     refine WS.eqlN (a := (p.kd).toNat) (b := 6) rfl rfl rfl (fun e34 => ?_) (fun e34 => ?_)
     ·
      refine WS.op rfl rfl (WS.nil [(1, _), (3, _), (33, _)] rfl ?_)
      refine WC.condT rfl ?_
      refine WC.run ?_
      refine WS.op rfl rfl (WS.op rfl rfl (WS.op rfl (op_lds [_, _, _, _] (M15.at 2 rfl) rfl (Nat.le_of_ble_eq_true rfl) rfl) ?_))
      refine WS.call rfl rfl rfl (WriteR_ran M15.here (r := p.r) (A.mono M15.sub) (by exact hf)) ?_
      rintro _ h19 ⟨rfl, N20⟩
      have M21 := M15.trans N20
      refine WS.op rfl (op_sadd (l := ([p.kd] ++ ((vb ((p.se).toNat)) ++ (vb ((p.sq).toNat))))) (m := (encR p.r)) rfl rfl (by first | omega | (simp only [List.length_append, List.length_cons, List.length_nil]; omega))) (WS.op rfl rfl (WS.nil [(3, _)] rfl ?_))
      refine WC.seq ?_
      refine WC.run ?_
      refine WS.op rfl rfl (WS.op rfl rfl (WS.nil [(2, _)] rfl ?_))
      refine WC.ret ?_
      refine ⟨[_], (res_tmp rfl res_nil), ?_⟩
      have q3 : encP p = (([p.kd] ++ ((vb ((p.se).toNat)) ++ (vb ((p.sq).toNat)))) ++ (encR p.r)) := by first | (exfalso; omega) | (rw [encP_1 (by omega)]; done) | (rw [encP_3 (by omega)]; done) | (rw [encP_6 (by omega)]; done) | (rw [encP_0 (by omega) (by omega) (by omega), List.append_nil]; done)
      exact ⟨by rw [if_pos rfl, q3]; rfl, M21.bare.take 0⟩
     ·
      refine WS.op rfl rfl (WS.nil [(1, _), (3, _), (33, _)] rfl ?_)
      refine WC.condF rfl ?_
      refine WC.skip ?_
      refine WC.seq ?_
      refine WC.run ?_
      refine WS.op rfl rfl (WS.op rfl rfl (WS.nil [(2, _)] rfl ?_))
      refine WC.ret ?_
      refine ⟨[_], (res_tmp rfl res_nil), ?_⟩
      have q3 : encP p = ([p.kd] ++ ((vb ((p.se).toNat)) ++ (vb ((p.sq).toNat)))) := by first | (exfalso; omega) | (rw [encP_1 (by omega)]; done) | (rw [encP_3 (by omega)]; done) | (rw [encP_6 (by omega)]; done) | (rw [encP_0 (by omega) (by omega) (by omega), List.append_nil]; done)
      exact ⟨by rw [if_pos rfl, q3]; rfl, M15.bare.take 0⟩
def plainP (p : Rep) : Rep := if p.kd.toNat = 1 then ⟨1, 0, 0, 0, zeroR⟩ else if p.kd.toNat = 3 then ⟨3, p.se, p.sq, p.ld, zeroR⟩ else if p.kd.toNat = 6 then ⟨6, p.se, p.sq, 0, p.r⟩ else ⟨p.kd, p.se, p.sq, 0, zeroR⟩
theorem plainP_ran (W : Mem h h [] []) {p : Rep} {V : Value} (A : KRrow.Sl h V p.r.rs) : Cll tab0 42 [p.val V] h (fun v h2 => ∃ V2, (∀ hh, KRrow.Sl hh V p.r.rs → KRrow.Sl hh V2 (plainP p).r.rs) ∧ v = (plainP p).val V2 ∧ Mem h h2 [] []) := by
  obtain ⟨P, n, rfl⟩ := A.shape
  refine Cll.code rfl rfl ?_
  refine WC.env [(0, _)] rfl ?_
  refine WC.seq ?_
  refine WC.run ?_
  refine WS.box W [_, _, _, _, _, _, _, _] rfl rfl rfl rfl ?_
  intro p1 h2 M3
  refine WS.new M3 rfl ?_
  intro p4 h5 M6
  refine WS.nil [(1, _), (2, _)] rfl ?_
  refine WC.seq ?_
  refine WC.seq ?_
  refine WC.run ?_
  refine WS.op rfl rfl (WS.op rfl (op_ld (M6.at 1 rfl) rfl rfl) (WS.nil [(1, _), (2, _), (4, _)] rfl ?_))
  refine WC.block ?_
  refine WC.seq ?_
  refine WC.run ?_
  refine WS.eqlN (a := (p.kd).toNat) (b := 1) rfl rfl rfl (fun e6 => ?_) (fun e6 => ?_)
  ·
   refine WS.op rfl rfl (WS.nil [(1, _), (2, _), (4, _), (5, _)] rfl ?_)
   refine WC.condT rfl ?_
   refine WC.seq ?_
   refine WC.run ?_
   refine WS.opV (.agg #[(.int .u8 (1 : Int)), (.int .u64 (0 : Int)), (.int .u64 (0 : Int)), (.int .u8 (0 : Int)), (.int .u8 (0 : Int)), (.int .u64 (0 : Int)), (.string (bs ([]))), (.slice none 0 0)]) rfl rfl rfl ?_
   refine WS.st1 (M6.focus 0 rfl) [_, _, _, _, _, _, _, _] [_, _, _, _, _, _, _, _] rfl rfl rfl rfl rfl (Nat.le_of_ble_eq_true rfl) (Nat.le_of_ble_eq_true rfl) rfl rfl ?_
   intro h7 M8
   replace M8 : Mem _ _ ([(p4, _)] :: [(p1, _)] :: []) _ := M8
   refine WS.nil [(2, _)] rfl ?_
   refine WC.ret ?_
   refine ⟨[_], (res_cellN [_, _, _, _, _, _, _, _] rfl (M8.at 0 rfl) (Nat.le_of_ble_eq_true rfl) rfl res_nil), ?_⟩
   have hp : plainP p = (⟨1, 0, 0, 0, (⟨0, 0, ([]), []⟩ : Res)⟩ : Rep) := by unfold plainP; first | (rw [if_pos (by omega)]; done) | (rw [if_pos (by omega)]; rfl)
   rw [hp]
   exact ⟨_, fun _ _ => .nil, rfl, M8.bare.take 0⟩
  ·
   refine WS.op rfl rfl (WS.nil [(1, _), (2, _), (4, _), (5, _)] rfl ?_)
   refine WC.condF rfl ?_
   refine WC.seq ?_
   refine WC.run ?_
   refine WS.eqlN (a := (p.kd).toNat) (b := 3) rfl rfl rfl (fun e9 => ?_) (fun e9 => ?_)
   ·
    refine WS.op rfl rfl (WS.nil [(1, _), (2, _), (4, _), (8, _)] rfl ?_)
    refine WC.condT rfl ?_
    refine WC.seq ?_
    refine WC.run ?_
    refine WS.op rfl rfl (WS.op rfl (op_ld (M6.at 1 rfl) rfl rfl) (WS.op rfl rfl (WS.op rfl (op_ld (M6.at 1 rfl) rfl rfl) (WS.op rfl rfl (WS.op rfl (op_ld (M6.at 1 rfl) rfl rfl) (WS.opV (.agg #[(.int .u8 (3 : Int)), (.int .u64 (((p.se).toNat : Nat) : Int)), (.int .u64 (((p.sq).toNat : Nat) : Int)), (.int .u8 (((p.ld).toNat : Nat) : Int)), (.int .u8 (0 : Int)), (.int .u64 (0 : Int)), (.string (bs ([]))), (.slice none 0 0)]) rfl rfl rfl ?_))))))
    refine WS.st1 (M6.focus 0 rfl) [_, _, _, _, _, _, _, _] [_, _, _, _, _, _, _, _] rfl rfl rfl rfl rfl (Nat.le_of_ble_eq_true rfl) (Nat.le_of_ble_eq_true rfl) rfl rfl ?_
    intro h9 M10
    replace M10 : Mem _ _ ([(p4, _)] :: [(p1, _)] :: []) _ := M10
    refine WS.nil [(2, _)] rfl ?_
    refine WC.ret ?_
    refine ⟨[_], (res_cellN [_, _, _, _, _, _, _, _] rfl (M10.at 0 rfl) (Nat.le_of_ble_eq_true rfl) rfl res_nil), ?_⟩
    have hp : plainP p = (⟨3, p.se, p.sq, p.ld, (⟨0, 0, ([]), []⟩ : Res)⟩ : Rep) := by unfold plainP; first | (rw [if_neg (by omega), if_pos (by omega)]; done) | (rw [if_neg (by omega), if_pos (by omega)]; rfl)
    rw [hp]
    exact ⟨_, fun _ _ => .nil, rfl, M10.bare.take 0⟩
   ·
    refine WS.op rfl rfl (WS.nil [(1, _), (2, _), (4, _), (8, _)] rfl ?_)
    refine WC.condF rfl ?_
    refine WC.seq ?_
    refine WC.run ?_
    refine WS.eqlN (a := (p.kd).toNat) (b := 6) rfl rfl rfl (fun e18 => ?_) (fun e18 => ?_)
    ·
     refine WS.op rfl rfl (WS.nil [(1, _), (2, _), (17, _)] rfl ?_)
     refine WC.condT rfl ?_
     refine WC.seq ?_
     refine WC.run ?_
     refine WS.op rfl rfl (WS.op rfl (op_ld (M6.at 1 rfl) rfl rfl) (WS.op rfl rfl (WS.op rfl (op_ld (M6.at 1 rfl) rfl rfl) (WS.op rfl rfl (WS.op rfl (op_lds [_, _, _, _] (M6.at 1 rfl) rfl (Nat.le_of_ble_eq_true rfl) rfl) (WS.opV (.agg #[(.int .u8 (6 : Int)), (.int .u64 (((p.se).toNat : Nat) : Int)), (.int .u64 (((p.sq).toNat : Nat) : Int)), (.int .u8 (0 : Int)), (.int .u8 (((p.r.cd).toNat : Nat) : Int)), (.int .u64 (((p.r.n).toNat : Nat) : Int)), (.string (bs p.r.va)), (.slice P p.r.rs.length n)]) rfl rfl rfl ?_))))))
     refine WS.st1 (M6.focus 0 rfl) [_, _, _, _, _, _, _, _] [_, _, _, _, _, _, _, _] rfl rfl rfl rfl rfl (Nat.le_of_ble_eq_true rfl) (Nat.le_of_ble_eq_true rfl) rfl rfl ?_
     intro h11 M12
     replace M12 : Mem _ _ ([(p4, _)] :: [(p1, _)] :: []) _ := M12
     refine WS.nil [(2, _)] rfl ?_
     refine WC.ret ?_
     refine ⟨[_], (res_cellN [_, _, _, _, _, _, _, _] rfl (M12.at 0 rfl) (Nat.le_of_ble_eq_true rfl) rfl res_nil), ?_⟩
     have hp : plainP p = (⟨6, p.se, p.sq, 0, p.r⟩ : Rep) := by unfold plainP; first | (rw [if_neg (by omega), if_neg (by omega), if_pos (by omega)]; done) | (rw [if_neg (by omega), if_neg (by omega), if_pos (by omega)]; rfl)
     rw [hp]
     exact ⟨_, fun _ q => q, rfl, M12.bare.take 0⟩
    ·
     refine WS.op rfl rfl (WS.nil [(1, _), (2, _), (17, _)] rfl ?_)
     refine WC.condF rfl ?_
     refine WC.skip ?_
     refine WC.seq ?_
     refine WC.run ?_
     refine WS.op rfl rfl (WS.op rfl (op_ld (M6.at 1 rfl) rfl rfl) (WS.op rfl rfl (WS.op rfl (op_ld (M6.at 1 rfl) rfl rfl) (WS.op rfl rfl (WS.op rfl (op_ld (M6.at 1 rfl) rfl rfl) (WS.opV (.agg #[(.int .u8 (((p.kd).toNat : Nat) : Int)), (.int .u64 (((p.se).toNat : Nat) : Int)), (.int .u64 (((p.sq).toNat : Nat) : Int)), (.int .u8 (0 : Int)), (.int .u8 (0 : Int)), (.int .u64 (0 : Int)), (.string (bs ([]))), (.slice none 0 0)]) rfl rfl rfl ?_))))))
     refine WS.st1 (M6.focus 0 rfl) [_, _, _, _, _, _, _, _] [_, _, _, _, _, _, _, _] rfl rfl rfl rfl rfl (Nat.le_of_ble_eq_true rfl) (Nat.le_of_ble_eq_true rfl) rfl rfl ?_
     intro h13 M14
     replace M14 : Mem _ _ ([(p4, _)] :: [(p1, _)] :: []) _ := M14
     refine WS.nil [(2, _)] rfl ?_
     refine WC.ret ?_
     refine ⟨[_], (res_cellN [_, _, _, _, _, _, _, _] rfl (M14.at 0 rfl) (Nat.le_of_ble_eq_true rfl) rfl res_nil), ?_⟩
     have hp : plainP p = (⟨p.kd, p.se, p.sq, 0, (⟨0, 0, ([]), []⟩ : Res)⟩ : Rep) := by unfold plainP; first | (rw [if_neg (by omega), if_neg (by omega), if_neg (by omega)]; done) | (rw [if_neg (by omega), if_neg (by omega), if_neg (by omega)]; rfl)
     rw [hp]
     exact ⟨_, fun _ _ => .nil, rfl, M14.bare.take 0⟩
theorem plainP_iff {p : Rep} (h : 1 ≤ p.kd.toNat ∧ p.kd.toNat ≤ 6) (hl : p.ld.toNat ≤ 5) : p = plainP p ↔ MayP p := by
  obtain ⟨kd, se, sq, ld, r⟩ := p
  simp only at h hl
  unfold plainP MayP
  simp only
  by_cases k1 : kd.toNat = 1
  · have e : kd = 1 := u8_inj k1
    subst e
    simp only [k1, if_true, Rep.mk.injEq, true_and]
    constructor
    · rintro ⟨q1, q2, q3, q4⟩; subst q1 q2 q3 q4; exact ⟨by decide, fun _ => ⟨rfl, rfl⟩, fun _ => rfl, fun q => by omega, fun _ => rfl⟩
    · rintro ⟨_, q2, q3, q4, q5⟩; exact ⟨(q2 trivial).1, (q2 trivial).2, q3 (by decide), q5 (by decide)⟩
  rw [if_neg k1]
  by_cases k3 : kd.toNat = 3
  · have e : kd = 3 := u8_inj k3
    subst e
    simp only [k3, if_true, Rep.mk.injEq, true_and]
    constructor
    · intro q; subst q; exact ⟨by decide, fun q => by omega, fun q => absurd rfl q, fun _ => hl, fun _ => rfl⟩
    · rintro ⟨_, q2, q3, q4, q5⟩; exact q5 (by decide)
  rw [if_neg k3]
  by_cases k6 : kd.toNat = 6
  · have e : kd = 6 := u8_inj k6
    subst e
    simp only [k6, if_true, Rep.mk.injEq, true_and, and_true]
    constructor
    · intro q; subst q; exact ⟨by decide, fun q => by omega, fun q => rfl, fun q => by omega, fun q => absurd rfl q⟩
    · rintro ⟨_, q2, q3, q4, q5⟩; exact q3 (by decide)
  rw [if_neg k6]
  simp only [Rep.mk.injEq, true_and]
  constructor
  · rintro ⟨q1, q2⟩; subst q1 q2; exact ⟨h, fun q => absurd q k1, fun _ => rfl, fun q => absurd q k3, fun _ => rfl⟩
  · rintro ⟨_, q2, q3, q4, q5⟩; exact ⟨q3 k3, q5 k6⟩
theorem SameP_ran (W : Mem h h [] []) {a b : Rep} {V V2 : Value} (A : KRrow.Sl h V a.r.rs) (B : KRrow.Sl h V2 b.r.rs) (hl : a.r.rs.length ≤ 1000000) : Cll tab0 23 [a.val V, b.val V2] h (fun v h2 => v = .bool (decide (a = b)) ∧ Mem h h2 [] []) := by
  obtain ⟨P, n, rfl⟩ := A.shape
  obtain ⟨P2, n2, rfl⟩ := B.shape
  refine Cll.code rfl rfl ?_
  refine WC.env [(0, _), (1, _)] rfl ?_
  refine WC.seq ?_
  refine WC.run ?_
  refine WS.box W [_, _, _, _, _, _, _, _] rfl rfl rfl rfl ?_
  intro p1 h2 M3
  refine WS.box M3 [_, _, _, _, _, _, _, _] rfl rfl rfl rfl ?_
  intro p4 h5 M6
  refine WS.op rfl rfl (WS.nil [(2, _), (3, _)] rfl ?_)
  refine WC.seq ?_
  refine WC.run ?_
  refine WS.op rfl rfl (WS.op rfl (op_ld (M6.at 1 rfl) rfl rfl) (WS.op rfl rfl (WS.op rfl (op_ld (M6.at 0 rfl) rfl rfl) ?_)))
  refine WS.eqlN (a := (a.kd).toNat) (b := (b.kd).toNat) rfl rfl rfl (fun e9 => ?_) (fun e9 => ?_)
  ·
   refine WS.op rfl rfl (WS.op rfl rfl (WS.op rfl (op_ld (M6.at 1 rfl) rfl rfl) (WS.op rfl rfl (WS.op rfl (op_ld (M6.at 0 rfl) rfl rfl) ?_))))
   refine WS.eqlN (a := (a.se).toNat) (b := (b.se).toNat) rfl rfl rfl (fun e15 => ?_) (fun e15 => ?_)
   ·
    refine WS.op rfl rfl (WS.op rfl rfl (WS.op rfl rfl (WS.op rfl (op_ld (M6.at 1 rfl) rfl rfl) (WS.op rfl rfl (WS.op rfl (op_ld (M6.at 0 rfl) rfl rfl) ?_)))))
    refine WS.eqlN (a := (a.sq).toNat) (b := (b.sq).toNat) rfl rfl rfl (fun e22 => ?_) (fun e22 => ?_)
    ·
     refine WS.op rfl rfl (WS.op rfl rfl (WS.op rfl rfl (WS.op rfl (op_ld (M6.at 1 rfl) rfl rfl) (WS.op rfl rfl (WS.op rfl (op_ld (M6.at 0 rfl) rfl rfl) ?_)))))
     refine WS.eqlN (a := (a.ld).toNat) (b := (b.ld).toNat) rfl rfl rfl (fun e29 => ?_) (fun e29 => ?_)
     ·
      refine WS.op rfl rfl (WS.op rfl rfl (WS.op rfl rfl (WS.op rfl (op_lds [_, _, _, _] (M6.at 1 rfl) rfl (Nat.le_of_ble_eq_true rfl) rfl) (WS.op rfl rfl (WS.op rfl (op_lds [_, _, _, _] (M6.at 0 rfl) rfl (Nat.le_of_ble_eq_true rfl) rfl) ?_)))))
      refine WS.call rfl rfl rfl (SameR_ran M6.here (a := a.r) (b := b.r) (A.mono M6.sub) (B.mono M6.sub) (by omega)) ?_
      rintro _ h7 ⟨rfl, N8⟩
      have M9 := M6.trans N8
      refine WS.op rfl rfl (WS.op rfl rfl (WS.nil [(4, _)] rfl ?_))
      refine WC.ret ?_
      cases hb1 : (decide (a.r = b.r))
      ·
       refine ⟨[_], (res_tmp rfl res_nil), ?_⟩
       exact ⟨vbf (fun q => by first | exact absurd (by rw [q]) e9 | exact absurd (by rw [q]) e15 | exact absurd (by rw [q]) e22 | exact absurd (by rw [q]) e29 | exact absurd (by rw [q]) (of_decide_eq_false (p := a.r = b.r) (by assumption))), M9.bare.take 0⟩
      ·
       refine ⟨[_], (res_tmp rfl res_nil), ?_⟩
       exact ⟨vbt (rep_eq (u8_inj e9) (u64_inj e15) (u64_inj e22) (u8_inj e29) (of_decide_eq_true (p := a.r = b.r) (by assumption))), M9.bare.take 0⟩
     ·
      refine WS.op rfl rfl (WS.op rfl rfl (WS.off rfl (WS.off rfl (WS.off rfl (WS.off rfl (WS.offC rfl (WS.op rfl rfl (WS.op rfl rfl (WS.nil [(4, _)] rfl ?_)))))))))
      refine WC.ret ?_
      refine ⟨[_], (res_tmp rfl res_nil), ?_⟩
      exact ⟨vbf (fun q => by first | exact absurd (by rw [q]) e9 | exact absurd (by rw [q]) e15 | exact absurd (by rw [q]) e22 | exact absurd (by rw [q]) e29 | exact absurd (by rw [q]) (of_decide_eq_false (p := a.r = b.r) (by assumption))), M6.bare.take 0⟩
    ·
     refine WS.op rfl rfl (WS.op rfl rfl (WS.off rfl (WS.off rfl (WS.off rfl (WS.off rfl (WS.off rfl (WS.op rfl rfl (WS.op rfl rfl (WS.off rfl ?_)))))))))
     refine WS.off rfl (WS.off rfl (WS.off rfl (WS.offC rfl (WS.op rfl rfl (WS.op rfl rfl (WS.nil [(4, _)] rfl ?_))))))
     refine WC.ret ?_
     refine ⟨[_], (res_tmp rfl res_nil), ?_⟩
     exact ⟨vbf (fun q => by first | exact absurd (by rw [q]) e9 | exact absurd (by rw [q]) e15 | exact absurd (by rw [q]) e22 | exact absurd (by rw [q]) e29 | exact absurd (by rw [q]) (of_decide_eq_false (p := a.r = b.r) (by assumption))), M6.bare.take 0⟩
   ·
    refine WS.op rfl rfl (WS.op rfl rfl (WS.off rfl (WS.off rfl (WS.off rfl (WS.off rfl (WS.off rfl (WS.op rfl rfl (WS.op rfl rfl (WS.off rfl ?_)))))))))
    refine WS.off rfl (WS.off rfl (WS.off rfl (WS.off rfl (WS.op rfl rfl (WS.op rfl rfl (WS.off rfl (WS.off rfl (WS.off rfl (WS.off rfl ?_)))))))))
    refine WS.offC rfl (WS.op rfl rfl (WS.op rfl rfl (WS.nil [(4, _)] rfl ?_)))
    refine WC.ret ?_
    refine ⟨[_], (res_tmp rfl res_nil), ?_⟩
    exact ⟨vbf (fun q => by first | exact absurd (by rw [q]) e9 | exact absurd (by rw [q]) e15 | exact absurd (by rw [q]) e22 | exact absurd (by rw [q]) e29 | exact absurd (by rw [q]) (of_decide_eq_false (p := a.r = b.r) (by assumption))), M6.bare.take 0⟩
  ·
   refine WS.op rfl rfl (WS.off rfl (WS.off rfl (WS.off rfl (WS.off rfl (WS.off rfl (WS.op rfl rfl (WS.op rfl rfl (WS.off rfl (WS.off rfl ?_)))))))))
   refine WS.off rfl (WS.off rfl (WS.off rfl (WS.op rfl rfl (WS.op rfl rfl (WS.off rfl (WS.off rfl (WS.off rfl (WS.off rfl (WS.off rfl ?_)))))))))
   refine WS.op rfl rfl (WS.op rfl rfl (WS.off rfl (WS.off rfl (WS.off rfl (WS.off rfl (WS.offC rfl (WS.op rfl rfl (WS.op rfl rfl (WS.nil [(4, _)] rfl ?_)))))))))
   refine WC.ret ?_
   refine ⟨[_], (res_tmp rfl res_nil), ?_⟩
   exact ⟨vbf (fun q => by first | exact absurd (by rw [q]) e9 | exact absurd (by rw [q]) e15 | exact absurd (by rw [q]) e22 | exact absurd (by rw [q]) e29 | exact absurd (by rw [q]) (of_decide_eq_false (p := a.r = b.r) (by assumption))), M6.bare.take 0⟩
set_option maxRecDepth 8000 in
theorem refWriteP_ran (W : Mem h h [] []) {p : Rep} {V : Value} (A : KRrow.Sl h V p.r.rs) (hf : FitRes p.r) : Cll tab0 19 [p.val V] h (fun v h2 => v = .string (bs (if mayPB p then encP p else [])) ∧ Mem h h2 [] []) := by
  obtain ⟨P, n, rfl⟩ := A.shape
  have v1 := vb_len p.se.toNat_lt
  have v2 := vb_len p.sq.toNat_lt
  have u1 := p.se.toNat_lt
  have u2 := p.sq.toNat_lt
  have hr := encR_lenF hf
  have hrl := hf.2.1
  refine Cll.code rfl rfl ?_
  refine WC.env [(0, _)] rfl ?_
  refine WC.seq ?_
  refine WC.run ?_
  refine WS.box W [_, _, _, _, _, _, _, _] rfl rfl rfl rfl ?_
  intro p1 h2 M3
  refine WS.op rfl rfl (WS.nil [(1, _)] rfl ?_)
  refine WC.seq ?_
  refine WC.seq ?_
  obtain ⟨L4, eL6, M5⟩ := Mem.name M3.bare
  refine WC.joinD M5 [] rfl (fun b => [(1, (.pointer (some ⟨p1, 0, none⟩))), (23, .bool b)]) L4 (¬ MayP p) (MayP p) ?_ ?_ ?_
  ·subst eL6
   intro rb7 h8 M9
   refine WS.op rfl rfl (WS.op rfl (op_ld (M9.at 0 rfl) rfl rfl) ?_)
   refine WS.lssN (a := (p.kd).toNat) (b := 1) rfl rfl rfl (fun e6 => ?_) (fun e6 => ?_)
   ·
    refine WS.op rfl rfl (WS.off rfl (WS.off rfl (WS.off rfl (WS.op rfl rfl (WS.op rfl rfl (WS.off rfl (WS.off rfl (WS.off rfl (WS.op rfl rfl ?_)))))))))
    refine WS.op rfl rfl (WS.off rfl (WS.off rfl (WS.offC rfl (WS.chkOff rfl (WS.offC rfl (WS.off rfl (WS.op rfl rfl ?_)))))))
    refine WS.nil' ⟨true, rfl, ((M9.bare.focus 0 rfl).take 1), fun _ => ?_, fun hh => ?_⟩
    · intro q; first | (have := q.1; omega) | (by_cases k3 : p.kd.toNat = 3; (have := q.2.2.2.1 k3; omega); (have := q.2.2.1 k3; rw [this] at e15; simp at e15; done)) | exact absurd ((plainP_iff (by omega) (by omega)).2 q) (of_decide_eq_false (by assumption))
    · cases hh
   ·
    refine WS.op rfl rfl (WS.op rfl rfl (WS.op rfl (op_ld (M9.at 0 rfl) rfl rfl) ?_))
    refine WS.gtrN (a := (p.kd).toNat) (b := 6) rfl rfl rfl (fun e10 => ?_) (fun e10 => ?_)
    ·
     refine WS.op rfl rfl (WS.op rfl rfl (WS.off rfl (WS.off rfl (WS.off rfl (WS.op rfl rfl (WS.op rfl rfl (WS.off rfl (WS.off rfl (WS.offC rfl ?_)))))))))
     refine WS.chkOff rfl (WS.offC rfl (WS.off rfl (WS.op rfl rfl ?_)))
     refine WS.nil' ⟨true, rfl, ((M9.bare.focus 0 rfl).take 1), fun _ => ?_, fun hh => ?_⟩
     · intro q; first | (have := q.1; omega) | (by_cases k3 : p.kd.toNat = 3; (have := q.2.2.2.1 k3; omega); (have := q.2.2.1 k3; rw [this] at e15; simp at e15; done)) | exact absurd ((plainP_iff (by omega) (by omega)).2 q) (of_decide_eq_false (by assumption))
     · cases hh
    ·
     refine WS.op rfl rfl (WS.op rfl rfl (WS.op rfl rfl (WS.op rfl (op_ld (M9.at 0 rfl) rfl rfl) ?_)))
     refine WS.gtrN (a := (p.ld).toNat) (b := 5) rfl rfl rfl (fun e15 => ?_) (fun e15 => ?_)
     ·
      refine WS.op rfl rfl (WS.op rfl rfl (WS.off rfl (WS.off rfl (WS.offC rfl (WS.chkOff rfl (WS.offC rfl (WS.off rfl (WS.op rfl rfl ?_))))))))
      refine WS.nil' ⟨true, rfl, ((M9.bare.focus 0 rfl).take 1), fun _ => ?_, fun hh => ?_⟩
      · intro q; first | (have := q.1; omega) | (by_cases k3 : p.kd.toNat = 3; (have := q.2.2.2.1 k3; omega); (have := q.2.2.1 k3; rw [this] at e15; simp at e15; done)) | exact absurd ((plainP_iff (by omega) (by omega)).2 q) (of_decide_eq_false (by assumption))
      · cases hh
     ·
      refine WS.op rfl rfl (WS.op rfl rfl (WS.op rfl (op_lds [_, _, _, _, _, _, _, _] (M9.at 0 rfl) rfl (Nat.le_of_ble_eq_true rfl) rfl) (WS.op rfl (op_lds [_, _, _, _, _, _, _, _] (M9.at 0 rfl) rfl (Nat.le_of_ble_eq_true rfl) rfl) ?_)))
      refine WS.call rfl rfl rfl (plainP_ran M9.here (p := p) (A.mono M9.sub)) ?_
      rintro _ h10 ⟨V13, A14, rfl, N11⟩
      replace A14 := A14 _ A
      obtain ⟨P15, c16, rfl⟩ := A14.shape
      have M12 := M9.trans N11
      refine WS.chk rfl (op_lds [_, _, _, _, _, _, _, _] (M12.at 0 rfl) rfl (Nat.le_of_ble_eq_true rfl) rfl) rfl (same_agg rfl) ?_
      refine WS.call rfl rfl rfl (SameP_ran M12.here (a := p) (b := (⟨((plainP p).kd), ((plainP p).se), ((plainP p).sq), ((plainP p).ld), (⟨((plainP p).r.cd), ((plainP p).r.n), ((plainP p).r.va), ((plainP p).r.rs)⟩ : Res)⟩ : Rep)) (A.mono M12.sub) (A14.mono M12.sub) (by omega)) ?_
      rintro _ h17 ⟨rfl, N18⟩
      have M19 := M12.trans N18
      cases hb1 : (decide (p = (⟨((plainP p).kd), ((plainP p).se), ((plainP p).sq), ((plainP p).ld), (⟨((plainP p).r.cd), ((plainP p).r.n), ((plainP p).r.va), ((plainP p).r.rs)⟩ : Res)⟩ : Rep)))
      ·
       refine WS.opV (.bool true) rfl rfl rfl (WS.op rfl rfl ?_)
       refine WS.nil' ⟨true, rfl, ((M19.bare.focus 0 rfl).take 1), fun _ => ?_, fun hh => ?_⟩
       · intro q; first | (have := q.1; omega) | (by_cases k3 : p.kd.toNat = 3; (have := q.2.2.2.1 k3; omega); (have := q.2.2.1 k3; rw [this] at e15; simp at e15; done)) | exact absurd ((plainP_iff (by omega) (by omega)).2 q) (of_decide_eq_false (by assumption))
       · cases hh
      ·
       refine WS.opV (.bool false) rfl rfl rfl (WS.op rfl rfl ?_)
       refine WS.nil' ⟨false, rfl, ((M19.bare.focus 0 rfl).take 1), fun hh => ?_, fun _ => ?_⟩
       · cases hh
       · exact (plainP_iff (by omega) (by omega)).1 (of_decide_eq_true (by assumption))
  ·intro h20 M21 hp23
   subst eL6
   refine WC.condT rfl ?_
   refine WC.seq ?_
   refine WC.run ?_
   refine WS.op rfl rfl (WS.nil [(2, _)] rfl ?_)
   refine WC.ret ?_
   refine ⟨[_], (res_tmp rfl res_nil), ?_⟩
   exact ⟨by rw [if_neg (show ¬ mayPB p = true from fun q => hp23 (of_decide_eq_true q))]; rfl, M21.bare.take 0⟩
  ·intro h22 M23 hp23
   subst eL6
   refine WC.condF rfl ?_
   refine WC.skip ?_
   refine WC.seq ?_
   refine WC.run ?_
   refine WS.op rfl rfl (WS.op rfl (op_ld (M23.at 0 rfl) rfl rfl) ?_)
   refine WS.bsl M23 [_] rfl rfl rfl rfl ?_
   intro p24 h25 M26
   refine WS.op rfl (op_cvB (l := [p.kd]) (M26.at 0 rfl) rfl rfl (Nat.le_of_ble_eq_true rfl) rfl) (WS.op rfl rfl (WS.nil [(1, _), (3, _)] rfl ?_))
   refine WC.seq ?_
   refine WC.seq ?_
   refine WC.run ?_
   refine WS.op rfl rfl (WS.op rfl (op_ld (M26.at 1 rfl) rfl rfl) ?_)
   refine WS.gtrN (a := (p.kd).toNat) (b := 1) rfl rfl rfl (fun e30 => ?_) (fun e30 => ?_)
   ·
    refine WS.nil [(1, _), (3, _), (30, _)] rfl ?_
    refine WC.condT rfl ?_
    refine WC.run ?_
    refine WS.op rfl rfl (WS.op rfl rfl (WS.op rfl (op_ld (M26.at 1 rfl) rfl rfl) (WS.op rfl rfl (WS.op rfl (op_ld (M26.at 1 rfl) rfl rfl) ?_))))
    refine WS.bsl M26 [_, _] rfl rfl rfl rfl ?_
    intro p27 h28 M29
    refine WS.call rfl rfl rfl (ref_V_ran M29.here (Row.Sl.own (K := KNat) (l := [(p.se).toNat, (p.sq).toNat]) (M29.at 0 rfl)) (by intro n hn; simp only [List.mem_cons, List.mem_nil_iff, or_false] at hn; omega) (by simp) (r := ((vb ((p.se).toNat)) ++ (vb ((p.sq).toNat)))) (by simp [List.flatMap])) ?_
    rintro _ h30 ⟨rfl, N31⟩
    have M32 := M29.trans N31
    refine WS.op rfl (op_sadd (l := [p.kd]) (m := ((vb ((p.se).toNat)) ++ (vb ((p.sq).toNat)))) rfl rfl (by first | omega | (simp only [List.length_append, List.length_cons, List.length_nil]; omega))) (WS.op rfl rfl (WS.nil [(1, _), (3, _)] rfl ?_))
    refine WC.seq ?_
    refine WC.seq ?_
    refine WC.run ?_
    refine WS.op rfl rfl (WS.op rfl (op_ld (M32.at 2 rfl) rfl rfl) ?_)
    refine WS.eqlN (a := (p.kd).toNat) (b := 3) rfl rfl rfl (fun e41 => ?_) (fun e41 => ?_)
    ·
     refine WS.nil [(1, _), (3, _), (41, _)] rfl ?_
     refine WC.condT rfl ?_
     refine WC.run ?_
     refine WS.op rfl rfl (WS.op rfl rfl (WS.op rfl (op_ld (M32.at 2 rfl) rfl rfl) ?_))
     refine WS.bsl M32 [_] rfl rfl rfl rfl ?_
     intro p33 h34 M35
     refine WS.op rfl (op_cvB (l := [p.ld]) (M35.at 0 rfl) rfl rfl (Nat.le_of_ble_eq_true rfl) rfl) (WS.op rfl (op_sadd (l := ([p.kd] ++ ((vb ((p.se).toNat)) ++ (vb ((p.sq).toNat))))) (m := [p.ld]) rfl rfl (by first | omega | (simp only [List.length_append, List.length_cons, List.length_nil]; omega))) (WS.op rfl rfl (WS.nil [(1, _), (3, _)] rfl ?_)))
     refine WC.seq ?_
     refine WC.seq ?_
     refine WC.run ?_
     refine WS.op rfl rfl (WS.op rfl (op_ld (M35.at 3 rfl) rfl rfl) ?_)
     refine WS.eqlN (a := (p.kd).toNat) (b := 6) rfl rfl rfl (fun e50 => ?_) (fun e50 => ?_)
     ·
      refine WS.nil [(1, _), (3, _), (50, _)] rfl ?_
      refine WC.condT rfl ?_
      refine WC.run ?_
      refine WS.op rfl rfl (WS.op rfl rfl (WS.op rfl (op_lds [_, _, _, _] (M35.at 3 rfl) rfl (Nat.le_of_ble_eq_true rfl) rfl) ?_))
      refine WS.call rfl rfl rfl (refWriteR_ran M35.here (r := p.r) (A.mono M35.sub) (by exact hf)) ?_
      rintro _ h36 ⟨rfl, N37⟩
      have M38 := M35.trans N37
      refine WS.op rfl (op_sadd (l := (([p.kd] ++ ((vb ((p.se).toNat)) ++ (vb ((p.sq).toNat)))) ++ [p.ld])) (m := (encR p.r)) rfl rfl (by first | omega | (simp only [List.length_append, List.length_cons, List.length_nil]; omega))) (WS.op rfl rfl (WS.nil [(3, _)] rfl ?_))
      refine WC.seq ?_
      refine WC.run ?_
      refine WS.op rfl rfl (WS.op rfl rfl (WS.nil [(2, _)] rfl ?_))
      refine WC.ret ?_
      refine ⟨[_], (res_tmp rfl res_nil), ?_⟩
      have hm := hp23.1
      have q3 : encP p = ((([p.kd] ++ ((vb ((p.se).toNat)) ++ (vb ((p.sq).toNat)))) ++ [p.ld]) ++ (encR p.r)) := by first | (exfalso; omega) | (rw [encP_1 (by omega)]; done) | (rw [encP_3 (by omega)]; done) | (rw [encP_6 (by omega)]; done) | (rw [encP_0 (by omega) (by omega) (by omega), List.append_nil]; done)
      exact ⟨by rw [if_pos (show mayPB p = true from decide_eq_true hp23), q3]; rfl, M38.bare.take 0⟩
     ·
      refine WS.nil [(1, _), (3, _), (50, _)] rfl ?_
      refine WC.condF rfl ?_
      refine WC.skip ?_
      refine WC.seq ?_
      refine WC.run ?_
      refine WS.op rfl rfl (WS.op rfl rfl (WS.nil [(2, _)] rfl ?_))
      refine WC.ret ?_
      refine ⟨[_], (res_tmp rfl res_nil), ?_⟩
      have hm := hp23.1
      have q3 : encP p = (([p.kd] ++ ((vb ((p.se).toNat)) ++ (vb ((p.sq).toNat)))) ++ [p.ld]) := by first | (exfalso; omega) | (rw [encP_1 (by omega)]; done) | (rw [encP_3 (by omega)]; done) | (rw [encP_6 (by omega)]; done) | (rw [encP_0 (by omega) (by omega) (by omega), List.append_nil]; done)
      exact ⟨by rw [if_pos (show mayPB p = true from decide_eq_true hp23), q3]; rfl, M35.bare.take 0⟩
    ·
     refine WS.nil [(1, _), (3, _), (41, _)] rfl ?_
     refine WC.condF rfl ?_
     refine WC.skip ?_
     refine WC.seq ?_
     refine WC.seq ?_
     refine WC.run ?_
     refine WS.op rfl rfl (WS.op rfl (op_ld (M32.at 2 rfl) rfl rfl) ?_)
     refine WS.eqlN (a := (p.kd).toNat) (b := 6) rfl rfl rfl (fun e50 => ?_) (fun e50 => ?_)
     ·
      refine WS.nil [(1, _), (3, _), (50, _)] rfl ?_
      refine WC.condT rfl ?_
      refine WC.run ?_
      refine WS.op rfl rfl (WS.op rfl rfl (WS.op rfl (op_lds [_, _, _, _] (M32.at 2 rfl) rfl (Nat.le_of_ble_eq_true rfl) rfl) ?_))
      refine WS.call rfl rfl rfl (refWriteR_ran M32.here (r := p.r) (A.mono M32.sub) (by exact hf)) ?_
      rintro _ h39 ⟨rfl, N40⟩
      have M41 := M32.trans N40
      refine WS.op rfl (op_sadd (l := ([p.kd] ++ ((vb ((p.se).toNat)) ++ (vb ((p.sq).toNat))))) (m := (encR p.r)) rfl rfl (by first | omega | (simp only [List.length_append, List.length_cons, List.length_nil]; omega))) (WS.op rfl rfl (WS.nil [(3, _)] rfl ?_))
      refine WC.seq ?_
      refine WC.run ?_
      refine WS.op rfl rfl (WS.op rfl rfl (WS.nil [(2, _)] rfl ?_))
      refine WC.ret ?_
      refine ⟨[_], (res_tmp rfl res_nil), ?_⟩
      have hm := hp23.1
      have q3 : encP p = (([p.kd] ++ ((vb ((p.se).toNat)) ++ (vb ((p.sq).toNat)))) ++ (encR p.r)) := by first | (exfalso; omega) | (rw [encP_1 (by omega)]; done) | (rw [encP_3 (by omega)]; done) | (rw [encP_6 (by omega)]; done) | (rw [encP_0 (by omega) (by omega) (by omega), List.append_nil]; done)
      exact ⟨by rw [if_pos (show mayPB p = true from decide_eq_true hp23), q3]; rfl, M41.bare.take 0⟩
     ·
      refine WS.nil [(1, _), (3, _), (50, _)] rfl ?_
      refine WC.condF rfl ?_
      refine WC.skip ?_
      refine WC.seq ?_
      refine WC.run ?_
      refine WS.op rfl rfl (WS.op rfl rfl (WS.nil [(2, _)] rfl ?_))
      refine WC.ret ?_
      refine ⟨[_], (res_tmp rfl res_nil), ?_⟩
      have hm := hp23.1
      have q3 : encP p = ([p.kd] ++ ((vb ((p.se).toNat)) ++ (vb ((p.sq).toNat)))) := by first | (exfalso; omega) | (rw [encP_1 (by omega)]; done) | (rw [encP_3 (by omega)]; done) | (rw [encP_6 (by omega)]; done) | (rw [encP_0 (by omega) (by omega) (by omega), List.append_nil]; done)
      exact ⟨by rw [if_pos (show mayPB p = true from decide_eq_true hp23), q3]; rfl, M32.bare.take 0⟩
   ·
    refine WS.nil [(1, _), (3, _), (30, _)] rfl ?_
    refine WC.condF rfl ?_
    refine WC.skip ?_
    refine WC.seq ?_
    refine WC.seq ?_
    refine WC.run ?_
    refine WS.op rfl rfl (WS.op rfl (op_ld (M26.at 1 rfl) rfl rfl) ?_)
    refine WS.eqlN (a := (p.kd).toNat) (b := 3) rfl rfl rfl (fun e41 => ?_) (fun e41 => ?_)
    ·
     refine WS.nil [(1, _), (3, _), (41, _)] rfl ?_
     refine WC.condT rfl ?_
     refine WC.run ?_
     refine WS.op rfl rfl (WS.op rfl rfl (WS.op rfl (op_ld (M26.at 1 rfl) rfl rfl) ?_))
     refine WS.bsl M26 [_] rfl rfl rfl rfl ?_
     intro p42 h43 M44
     refine WS.op rfl (op_cvB (l := [p.ld]) (M44.at 0 rfl) rfl rfl (Nat.le_of_ble_eq_true rfl) rfl) (WS.op rfl (op_sadd (l := [p.kd]) (m := [p.ld]) rfl rfl (by first | omega | (simp only [List.length_append, List.length_cons, List.length_nil]; omega))) (WS.op rfl rfl (WS.nil [(1, _), (3, _)] rfl ?_)))
     refine WC.seq ?_
     refine WC.seq ?_
     refine WC.run ?_
     refine WS.op rfl rfl (WS.op rfl (op_ld (M44.at 2 rfl) rfl rfl) ?_)
     refine WS.eqlN (a := (p.kd).toNat) (b := 6) rfl rfl rfl (fun e50 => ?_) (fun e50 => ?_)
     ·
      refine WS.nil [(1, _), (3, _), (50, _)] rfl ?_
      refine WC.condT rfl ?_
      refine WC.run ?_
      refine WS.op rfl rfl (WS.op rfl rfl (WS.op rfl (op_lds [_, _, _, _] (M44.at 2 rfl) rfl (Nat.le_of_ble_eq_true rfl) rfl) ?_))
      refine WS.call rfl rfl rfl (refWriteR_ran M44.here (r := p.r) (A.mono M44.sub) (by exact hf)) ?_
      rintro _ h45 ⟨rfl, N46⟩
      have M47 := M44.trans N46
      refine WS.op rfl (op_sadd (l := ([p.kd] ++ [p.ld])) (m := (encR p.r)) rfl rfl (by first | omega | (simp only [List.length_append, List.length_cons, List.length_nil]; omega))) (WS.op rfl rfl (WS.nil [(3, _)] rfl ?_))
      refine WC.seq ?_
      refine WC.run ?_
      refine WS.op rfl rfl (WS.op rfl rfl (WS.nil [(2, _)] rfl ?_))
      refine WC.ret ?_
      refine ⟨[_], (res_tmp rfl res_nil), ?_⟩
      have hm := hp23.1
      have q3 : encP p = (([p.kd] ++ [p.ld]) ++ (encR p.r)) := by first | (exfalso; omega) | (rw [encP_1 (by omega)]; done) | (rw [encP_3 (by omega)]; done) | (rw [encP_6 (by omega)]; done) | (rw [encP_0 (by omega) (by omega) (by omega), List.append_nil]; done)
      exact ⟨by rw [if_pos (show mayPB p = true from decide_eq_true hp23), q3]; rfl, M47.bare.take 0⟩
     ·
      refine WS.nil [(1, _), (3, _), (50, _)] rfl ?_
      refine WC.condF rfl ?_
      refine WC.skip ?_
      refine WC.seq ?_
      refine WC.run ?_
      refine WS.op rfl rfl (WS.op rfl rfl (WS.nil [(2, _)] rfl ?_))
      refine WC.ret ?_
      refine ⟨[_], (res_tmp rfl res_nil), ?_⟩
      have hm := hp23.1
      have q3 : encP p = ([p.kd] ++ [p.ld]) := by first | (exfalso; omega) | (rw [encP_1 (by omega)]; done) | (rw [encP_3 (by omega)]; done) | (rw [encP_6 (by omega)]; done) | (rw [encP_0 (by omega) (by omega) (by omega), List.append_nil]; done)
      exact ⟨by rw [if_pos (show mayPB p = true from decide_eq_true hp23), q3]; rfl, M44.bare.take 0⟩
    ·
     refine WS.nil [(1, _), (3, _), (41, _)] rfl ?_
     refine WC.condF rfl ?_
     refine WC.skip ?_
     refine WC.seq ?_
     refine WC.seq ?_
     refine WC.run ?_
     refine WS.op rfl rfl (WS.op rfl (op_ld (M26.at 1 rfl) rfl rfl) ?_)
     refine WS.eqlN (a := (p.kd).toNat) (b := 6) rfl rfl rfl (fun e50 => ?_) (fun e50 => ?_)
     ·
      refine WS.nil [(1, _), (3, _), (50, _)] rfl ?_
      refine WC.condT rfl ?_
      refine WC.run ?_
      refine WS.op rfl rfl (WS.op rfl rfl (WS.op rfl (op_lds [_, _, _, _] (M26.at 1 rfl) rfl (Nat.le_of_ble_eq_true rfl) rfl) ?_))
      refine WS.call rfl rfl rfl (refWriteR_ran M26.here (r := p.r) (A.mono M26.sub) (by exact hf)) ?_
      rintro _ h48 ⟨rfl, N49⟩
      have M50 := M26.trans N49
      refine WS.op rfl (op_sadd (l := [p.kd]) (m := (encR p.r)) rfl rfl (by first | omega | (simp only [List.length_append, List.length_cons, List.length_nil]; omega))) (WS.op rfl rfl (WS.nil [(3, _)] rfl ?_))
      refine WC.seq ?_
      refine WC.run ?_
      refine WS.op rfl rfl (WS.op rfl rfl (WS.nil [(2, _)] rfl ?_))
      refine WC.ret ?_
      refine ⟨[_], (res_tmp rfl res_nil), ?_⟩
      have hm := hp23.1
      have q3 : encP p = ([p.kd] ++ (encR p.r)) := by first | (exfalso; omega) | (rw [encP_1 (by omega)]; done) | (rw [encP_3 (by omega)]; done) | (rw [encP_6 (by omega)]; done) | (rw [encP_0 (by omega) (by omega) (by omega), List.append_nil]; done)
      exact ⟨by rw [if_pos (show mayPB p = true from decide_eq_true hp23), q3]; rfl, M50.bare.take 0⟩
     ·
      refine WS.nil [(1, _), (3, _), (50, _)] rfl ?_
      refine WC.condF rfl ?_
      refine WC.skip ?_
      refine WC.seq ?_
      refine WC.run ?_
      refine WS.op rfl rfl (WS.op rfl rfl (WS.nil [(2, _)] rfl ?_))
      refine WC.ret ?_
      refine ⟨[_], (res_tmp rfl res_nil), ?_⟩
      have hm := hp23.1
      have q3 : encP p = [p.kd] := by first | (exfalso; omega) | (rw [encP_1 (by omega)]; done) | (rw [encP_3 (by omega)]; done) | (rw [encP_6 (by omega)]; done) | (rw [encP_0 (by omega) (by omega) (by omega), List.append_nil]; done)
      exact ⟨by rw [if_pos (show mayPB p = true from decide_eq_true hp23), q3]; rfl, M26.bare.take 0⟩
end Go.Proofs.Yteikngjiaboeaaa.Wt
namespace Go.Proofs.Yteikngjiaboeaaa.Wt
open Go Go.Proofs.Yteikngjiaboeaaa.Am Go.Proofs.Yteikngjiaboeaaa.IrAll
set_option linter.unusedVariables false
set_option linter.unusedSimpArgs false
set_option maxRecDepth 100000 in
theorem opens_32 : OpensL Try.prog 32 (α := Frm) (fun h f cs => ∃ V, cs = Frm.cells f V ∧ SlL (fun _ y cs => cs = KPart.cells y) 3 h V f.c.ps) 37 (fun f => f.c.ky.length < 9223372036854775808 ∧ f.c.va.length < 9223372036854775808 ∧ f.c.ex.length < 9223372036854775808 ∧ f.c.fr.length < 9223372036854775808 ∧ f.c.to.length < 9223372036854775808 ∧ f.c.ps.length < 9223372036854775808 ∧ ∀ z ∈ f.c.ps, z.ky.length < 9223372036854775808 ∧ z.va.length < 9223372036854775808) := by
  refine OpensL.struct (fs := [(5, 0), (23, 1), (30, 9), (26, 21)]) (L := (layP layU8 (layP (layP layU8 (layP layU8 (layP layU8 (layP layU8 (layP layU8 (layP layU8 (layP layU8 layU8))))))) (layP (fun h c cs => ∃ V, cs = Cmd.cells c V ∧ SlL (fun _ y cs => cs = KPart.cells y) 3 h V c.ps) (fun _ o cs => cs = Oper.cells o))))) (mk := fun (kd, (t0, t1, t2, t3, t4, t5, t6, t7), c, o) => ⟨kd, t0, t1, t2, t3, t4, t5, t6, t7, c, o⟩) ?_ ?_ (by kernel_rfl) (by kernel_rfl) (OpensLF.cons (by decide) (by decide) opens_5 (OpensLF.cons (by decide) (by decide) opens_23 (OpensLF.cons (by decide) (by decide) opens_30 (OpensLF.one opens_26))))
  · rintro h ⟨kd, ⟨t0, t1, t2, t3, t4, t5, t6, t7⟩, c, o⟩ cs ⟨_, _, rfl, rfl, ⟨_, _, rfl, ⟨_, _, rfl, rfl, ⟨_, _, rfl, rfl, ⟨_, _, rfl, rfl, ⟨_, _, rfl, rfl, ⟨_, _, rfl, rfl, ⟨_, _, rfl, rfl, ⟨_, _, rfl, rfl, rfl⟩⟩⟩⟩⟩⟩⟩, ⟨_, _, rfl, ⟨V, rfl, hS⟩, rfl⟩⟩⟩
    exact ⟨V, rfl, hS⟩
  · rintro ⟨kd, ⟨t0, t1, t2, t3, t4, t5, t6, t7⟩, c, o⟩ ⟨k0, k1, k2, k3⟩
    exact k2
set_option maxRecDepth 100000 in
theorem opens_39 : OpensL Try.prog 39 (α := Rep) (fun h p cs => ∃ V, cs = Rep.cells p V ∧ SlL (fun _ y cs => cs = KRrow.cells y) 3 h V p.r.rs) 8 (fun p => p.r.va.length < 9223372036854775808 ∧ p.r.rs.length < 9223372036854775808 ∧ ∀ z ∈ p.r.rs, z.ky.length < 9223372036854775808 ∧ z.va.length < 9223372036854775808) := by
  refine OpensL.struct (fs := [(5, 0), (27, 1), (27, 2), (5, 3), (37, 4)]) (L := (layP layU8 (layP layU64 (layP layU64 (layP layU8 (fun h c cs => ∃ V, cs = Res.cells c V ∧ SlL (fun _ y cs => cs = KRrow.cells y) 3 h V c.rs)))))) (mk := fun (kd, se, sq, ld, r) => ⟨kd, se, sq, ld, r⟩) ?_ ?_ (by kernel_rfl) (by kernel_rfl) (OpensLF.cons (by decide) (by decide) opens_5 (OpensLF.cons (by decide) (by decide) opens_27 (OpensLF.cons (by decide) (by decide) opens_27 (OpensLF.cons (by decide) (by decide) opens_5 (OpensLF.one opens_37)))))
  · rintro h ⟨kd, se, sq, ld, r⟩ cs ⟨_, _, rfl, rfl, ⟨_, _, rfl, rfl, ⟨_, _, rfl, rfl, ⟨_, _, rfl, rfl, ⟨V, rfl, hS⟩⟩⟩⟩⟩
    exact ⟨V, rfl, hS⟩
  · rintro ⟨kd, se, sq, ld, r⟩ ⟨k0, k1, k2, k3, k4⟩
    exact k4
variable {h base : H} {L : List Seg} {R : List Nat}
theorem awake6_ran (W : Mem h h [] []) : Cll tab0 15 [] h (fun v h2 => v = .bool true ∧ Mem h h2 [] []) := ⟨_, h, awake_run h, rfl, W⟩
theorem Great6_ran (W : Mem h h [] []) {f : Frm} {V : Value} (A : KPart.Sl h V f.c.ps) (hl : f.c.ky.length < 9223372036854775808 ∧ f.c.va.length < 9223372036854775808 ∧ f.c.ex.length < 9223372036854775808 ∧ f.c.fr.length < 9223372036854775808 ∧ f.c.to.length < 9223372036854775808 ∧ f.c.ps.length < 9223372036854775808 ∧ ∀ z ∈ f.c.ps, z.ky.length < 9223372036854775808 ∧ z.va.length < 9223372036854775808) : Cll tab0 16 [f.val V] h (fun v h2 => (∃ g, v = .bool g ∧ (g = false → Fit f.c ∧ TightC f.c)) ∧ Mem h h2 [] []) := by
  obtain ⟨P, n, rfl⟩ := A.shape
  refine Cll.code rfl rfl ?_
  refine WC.env [(0, _)] rfl ?_
  refine WC.seq ?_
  refine WC.run ?_
  refine WS.box W [_, _, _, _, _, _, _, _, _, _, _, _, _, _, _, _, _, _, _, _, _, _, _, _, _, _, _, _, _, _, _, _, _, _, _, _, _] rfl rfl rfl rfl ?_
  intro p1 h2 M3
  refine WS.op rfl rfl (WS.nil [(1, _)] rfl ?_)
  refine WC.seq ?_
  refine WC.run ?_
  refine WS.op rfl rfl (WS.op rfl (op_lds [_, _, _, _, _, _, _, _, _, _, _, _] (M3.at 0 rfl) rfl (Nat.le_of_ble_eq_true rfl) rfl) ?_)
  refine WS.call rfl rfl rfl (Great_ran M3.here (c := f.c) (A.mono M3.sub) (by exact hl)) ?_
  rintro _ h4 ⟨⟨g5, rfl, hg5⟩, N5⟩
  have M6 := M3.trans N5
  refine WS.op rfl rfl (WS.nil [(2, _)] rfl ?_)
  refine WC.ret ?_
  refine ⟨[_], (res_tmp rfl res_nil), ?_⟩
  exact ⟨⟨g5, rfl, hg5⟩, M6.bare.take 0⟩
set_option maxRecDepth 8000 in
theorem law_FrameWrites (W : Mem h h [] []) {f : Frm} {p : Rep} {a0 a1 : List Value} (l0 : ∃ V, a0 = Frm.cells f V ∧ SlL (fun _ y cs => cs = KPart.cells y) 3 h V f.c.ps) (l1 : ∃ V, a1 = Rep.cells p V ∧ SlL (fun _ y cs => cs = KRrow.cells y) 3 h V p.r.rs) (k0 : f.c.ky.length < 9223372036854775808 ∧ f.c.va.length < 9223372036854775808 ∧ f.c.ex.length < 9223372036854775808 ∧ f.c.fr.length < 9223372036854775808 ∧ f.c.to.length < 9223372036854775808 ∧ f.c.ps.length < 9223372036854775808 ∧ ∀ z ∈ f.c.ps, z.ky.length < 9223372036854775808 ∧ z.va.length < 9223372036854775808) (k1 : p.r.va.length < 9223372036854775808 ∧ p.r.rs.length < 9223372036854775808 ∧ ∀ z ∈ p.r.rs, z.ky.length < 9223372036854775808 ∧ z.va.length < 9223372036854775808) : Cll tab0 4 [.agg a0.toArray, .agg a1.toArray] h (fun v _ => v = .bool true) := by
  obtain ⟨V0, rfl, S0⟩ := l0
  have A : KPart.Sl h V0 f.c.ps := SlL.sl S0
  obtain ⟨P, n, rfl⟩ := A.shape
  obtain ⟨V1, rfl, S1⟩ := l1
  have A2 : KRrow.Sl h V1 p.r.rs := SlL.sl S1
  obtain ⟨P2, n2, rfl⟩ := A2.shape
  refine Cll.code rfl rfl ?_
  refine WC.env [(0, _), (1, _)] rfl ?_
  refine WC.seq ?_
  refine WC.run ?_
  refine WS.box W [_, _, _, _, _, _, _, _, _, _, _, _, _, _, _, _, _, _, _, _, _, _, _, _, _, _, _, _, _, _, _, _, _, _, _, _, _] rfl rfl rfl rfl ?_
  intro p1 h2 M3
  refine WS.box M3 [_, _, _, _, _, _, _, _] rfl rfl rfl rfl ?_
  intro p4 h5 M6
  refine WS.op rfl rfl (WS.nil [(2, _), (3, _)] rfl ?_)
  refine WC.seq ?_
  refine WC.seq ?_
  obtain ⟨L7, eL9, M8⟩ := Mem.name M6.bare
  refine WC.joinB (base := h) (fun b => [(2, (.pointer (some ⟨p1, 0, none⟩))), (3, (.pointer (some ⟨p4, 0, none⟩))), (11, .bool b)]) L7 (True) ((Fit f.c ∧ TightC f.c) ∧ (FitRes p.r ∧ TightR p.r)) ?_ ?_ ?_
  ·subst eL9
   refine WS.op rfl (op_lds [_, _, _, _, _, _, _, _, _, _, _, _, _, _, _, _, _, _, _, _, _, _, _, _, _, _, _, _, _, _, _, _, _, _, _, _, _] (M8.at 1 rfl) rfl (Nat.le_of_ble_eq_true rfl) rfl) ?_
   refine WS.call rfl rfl rfl (Great6_ran M8.here (f := f) (A.mono M8.sub) (by assumption)) ?_
   rintro _ h10 ⟨⟨g6, rfl, hg6⟩, N11⟩
   have M12 := M8.trans N11
   refine WS.op rfl rfl ?_
   cases hb1 : g6
   ·
    refine WS.op rfl rfl (WS.op rfl (op_lds [_, _, _, _] (M12.at 0 rfl) rfl (Nat.le_of_ble_eq_true rfl) rfl) ?_)
    refine WS.call rfl rfl rfl (GreatR_ran M12.here (r := p.r) (A2.mono M12.sub) (by assumption)) ?_
    rintro _ h13 ⟨⟨g10, rfl, hg10⟩, N14⟩
    have M15 := M12.trans N14
    refine WS.op rfl rfl ?_
    cases hb2 : g10
    ·
     refine WS.nil' ⟨false, rfl, (((M15.bare.focus 1 rfl).focus 1 rfl).take 2), fun hh => ?_, fun _ => ?_⟩
     · cases hh
     · exact ⟨hg6 (by first | assumption | rfl), hg10 (by first | assumption | rfl)⟩
    ·
     refine WS.nil' ⟨true, rfl, (((M15.bare.focus 1 rfl).focus 1 rfl).take 2), fun _ => ?_, fun hh => ?_⟩
     · trivial
     · cases hh
   ·
    refine WS.off rfl (WS.off rfl (WS.offC rfl (WS.op rfl rfl ?_)))
    refine WS.nil' ⟨true, rfl, (((M12.bare.focus 1 rfl).focus 1 rfl).take 2), fun _ => ?_, fun hh => ?_⟩
    · trivial
    · cases hh
  ·intro h16 M17 hp11
   subst eL9
   refine WC.condT rfl ?_
   refine WC.seq ?_
   refine WC.run ?_
   refine WS.call rfl rfl rfl (awake6_ran M17.here ) ?_
   rintro _ h18 ⟨rfl, N19⟩
   have M20 := M17.trans N19
   refine WS.op rfl rfl (WS.nil [(4, _)] rfl ?_)
   refine WC.ret ?_
   refine ⟨[_], (res_tmp rfl res_nil), ?_⟩
   rfl
  ·intro h21 M22 hp11
   subst eL9
   refine WC.condF rfl ?_
   refine WC.skip ?_
   refine WC.seq ?_
   refine WC.draw M22 [] rfl ?_
   intro rb23 h24 M25
   refine WS.op rfl (op_lds [_, _, _, _, _, _, _, _, _, _, _, _, _, _, _, _, _, _, _, _, _, _, _, _, _, _, _, _, _, _, _, _, _, _, _, _, _] (M25.at 1 rfl) rfl (Nat.le_of_ble_eq_true rfl) rfl) (WS.op rfl (op_lds [_, _, _, _, _, _, _, _, _, _, _, _, _, _, _, _, _, _, _, _, _, _, _, _, _, _, _, _, _, _, _, _, _, _, _, _, _] (M25.at 1 rfl) rfl (Nat.le_of_ble_eq_true rfl) rfl) ?_)
   refine WS.call rfl rfl rfl (WriteF_ran M25.here (f := f) (A.mono M25.sub) (by exact hp11.1.1)) ?_
   rintro _ h26 ⟨rfl, N27⟩
   have M28 := M25.trans N27
   refine WS.chk rfl (op_lds [_, _, _, _, _, _, _, _, _, _, _, _, _, _, _, _, _, _, _, _, _, _, _, _, _, _, _, _, _, _, _, _, _, _, _, _, _] (M28.at 1 rfl) rfl (Nat.le_of_ble_eq_true rfl) rfl) rfl (same_agg rfl) ?_
   refine WS.call rfl rfl rfl (refWriteF_ran M28.here (f := f) (A.mono M28.sub) (by exact hp11.1.1)) ?_
   rintro _ h29 ⟨rfl, N30⟩
   have M31 := M28.trans N30
   refine WS.seql (l := (if mayFB f then encF f else [])) (m := (if mayFB f then encF f else [])) rfl rfl rfl (fun e17 => ?_) (fun e17 => ?_)
   ·
    refine WS.op rfl rfl (WS.op rfl (op_lds [_, _, _, _, _, _, _, _] (M31.at 0 rfl) rfl (Nat.le_of_ble_eq_true rfl) rfl) (WS.op rfl (op_lds [_, _, _, _, _, _, _, _] (M31.at 0 rfl) rfl (Nat.le_of_ble_eq_true rfl) rfl) ?_))
    refine WS.call rfl rfl rfl (WriteP_ran M31.here (p := p) (A2.mono M31.sub) (by exact hp11.2.1)) ?_
    rintro _ h32 ⟨rfl, N33⟩
    have M34 := M31.trans N33
    refine WS.chk rfl (op_lds [_, _, _, _, _, _, _, _] (M34.at 0 rfl) rfl (Nat.le_of_ble_eq_true rfl) rfl) rfl (same_agg rfl) ?_
    refine WS.call rfl rfl rfl (refWriteP_ran M34.here (p := p) (A2.mono M34.sub) (by exact hp11.2.1)) ?_
    rintro _ h35 ⟨rfl, N36⟩
    have M37 := M34.trans N36
    refine WS.seql (l := (if mayPB p then encP p else [])) (m := (if mayPB p then encP p else [])) rfl rfl rfl (fun e23 => ?_) (fun e23 => ?_)
    ·
     refine WS.op rfl rfl (WS.op rfl rfl ?_)
     refine WS.call rfl rfl rfl (awake6_ran M37.here ) ?_
     rintro _ h38 ⟨rfl, N39⟩
     have M40 := M37.trans N39
     refine WS.op rfl rfl (WS.op rfl rfl (WS.nil [(4, _)] rfl ?_))
     refine WC.ret ?_
     refine ⟨[_], (res_tmp rfl res_nil), ?_⟩
     rfl
    ·
     exact absurd rfl e23
   ·
    exact absurd rfl e17
end Go.Proofs.Yteikngjiaboeaaa.Wt
