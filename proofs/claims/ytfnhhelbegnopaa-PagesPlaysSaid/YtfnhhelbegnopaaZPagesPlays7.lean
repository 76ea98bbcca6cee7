/- The law 'PagesPlays' returns true for all arguments: what its proof stands on, part 7. -/
import Derived.Test.YtfnhhelbegnopaaZPagesPlays6
import Derived.OpenShut
namespace Go.Proofs.Ytfnhhelbegnopaa.Am
open Go
set_option linter.unusedVariables false
set_option linter.unusedSimpArgs false
abbrev BL := List (Option Blk × Option Am.Loc)
def CompR (r : Rho) (k : Nat) (bl : BL) : Prop := ∀ i p, bl[i]? = some p → r (k + i) = p.2
def CompH (h : H) (k : Nat) (bl : BL) : Prop := ∀ i p, bl[i]? = some p → ∀ B, p.1 = some B → h.get (k + i) = some B
def BlkOK (W : World) (r : Rho) (p : Option Blk × Option Am.Loc) : Prop := ∀ B, p.1 = some B → ∃ L c e fz, p.2 = some L ∧ W.heap[L.b]? = some (.cells c e fz) ∧ L.es = B.es ∧ B.cells.length ≤ L.lim ∧ L.o + L.lim ≤ c.size ∧ B.ro = true ∧
  ∀ (i : Nat) (v : Value), B.cells[i]? = some v → v.oneCell' = true ∧ ∃ v', c[L.o + i]? = some v' ∧ VR r v v'
theorem CompR.left {r : Rho} {k : Nat} {a b : BL} (h : CompR r k (a ++ b)) : CompR r k a := fun i p hp => h i p (by rw [List.getElem?_append_left (List.getElem?_eq_some_iff.1 hp).1]; exact hp)
theorem CompR.right {r : Rho} {k : Nat} {a b : BL} (h : CompR r k (a ++ b)) : CompR r (k + a.length) b := fun i p hp => by
  have := h (a.length + i) p (by rw [List.getElem?_append_right (by omega), Nat.add_sub_cancel_left]; exact hp)
  rw [← this]; congr 1; omega
theorem CompH.left {r : H} {k : Nat} {a b : BL} (h : CompH r k (a ++ b)) : CompH r k a := fun i p hp => h i p (by rw [List.getElem?_append_left (List.getElem?_eq_some_iff.1 hp).1]; exact hp)
theorem CompH.right {r : H} {k : Nat} {a b : BL} (h : CompH r k (a ++ b)) : CompH r (k + a.length) b := fun i p hp B hB => by
  have := h (a.length + i) p (by rw [List.getElem?_append_right (by omega), Nat.add_sub_cancel_left]; exact hp) B hB
  rw [← this]; congr 1; omega
abbrev Lay (α : Type) := H → α → List Value → Prop
def Given (W : World) (k n : Nat) {α : Type} (L : Lay α) (ok : α → Prop) (cs : List Value) : Prop :=
  ∃ (a : α) (bl : BL) (acs : List Value), acs.length = n ∧ acs.all (·.oneCell') = true ∧ (∀ r, CompR r k bl → (∀ p ∈ bl, BlkOK W r p) ∧ VL r acs cs) ∧ (∀ h, CompH h k bl → L h a acs) ∧ ok a
def OpensL (P : Program) (t : TypeId) {α : Type} (L : Lay α) (n : Nat) (ok : α → Prop) : Prop :=
  P.cellsOf t = n ∧ ∀ {Hh : Type} (enc : TypeId × Value → Hh) (W : World) (held : Bool) (fuel : Nat) (cs : List Value) (x : DataW Hh × List MemPlace), DataW.trod enc P W 0 (fun _ => true) held fuel t cs = some x → ∀ k, Given W k n L ok cs
section
variable {P : Program} {t e : TypeId}
theorem given_plain {W : World} {k : Nat} {α : Type} {L : Lay α} {ok : α → Prop} {v : Value} (a : α) (hp : plain1 v = true) (hL : ∀ h, L h a [v]) (ho : ok a) : Given W k 1 L ok [v] :=
  ⟨a, [], [v], rfl, by simp [oneCell_of_plain1 hp], fun r _ => ⟨fun p hp => by simp at hp, VL.cons (VR.of_plain1 hp) (VL.nil r)⟩, fun h _ => hL h, ho⟩
def layU8 : Lay UInt8 := fun _ a cs => cs = [.int .u8 ((a.toNat : Nat) : Int)]
def layU64 : Lay UInt64 := fun _ a cs => cs = [.int .u64 ((a.toNat : Nat) : Int)]
def layI64 : Lay Int64 := fun _ a cs => cs = [.int .i64 a.toInt]
def layStr : Lay (List UInt8) := fun _ a cs => cs = [.string (bs a)]
theorem OpensL.u8 (ht : P.underlying t = some (.int .u8)) (hc : P.cellsOf t = 1) : OpensL P t layU8 1 (fun _ => True) := by
  refine ⟨hc, fun enc W held fuel cs x h k => ?_⟩
  obtain ⟨n, rfl, _, hw⟩ := DataW.trod_int ht h
  have hw : 0 ≤ n ∧ n ≤ 255 := by simpa [Lit.wf, IntKind.min, IntKind.max, IntKind.signed, IntKind.bits] using hw
  have e : n = (((UInt8.ofNat n.toNat).toNat : Nat) : Int) := by rw [UInt8.toNat_ofNat']; omega
  exact given_plain (UInt8.ofNat n.toNat) rfl (fun _ => by show _ = _; rw [← e]) trivial
theorem OpensL.u64 (ht : P.underlying t = some (.int .u64)) (hc : P.cellsOf t = 1) : OpensL P t layU64 1 (fun _ => True) := by
  refine ⟨hc, fun enc W held fuel cs x h k => ?_⟩
  obtain ⟨n, rfl, _, hw⟩ := DataW.trod_int ht h
  have hw : 0 ≤ n ∧ n ≤ 18446744073709551615 := by simpa [Lit.wf, IntKind.min, IntKind.max, IntKind.signed, IntKind.bits] using hw
  have e : n = (((UInt64.ofNat n.toNat).toNat : Nat) : Int) := by rw [UInt64.toNat_ofNat']; omega
  exact given_plain (UInt64.ofNat n.toNat) rfl (fun _ => by show _ = _; rw [← e]) trivial
theorem OpensL.i64 (ht : P.underlying t = some (.int .i64)) (hc : P.cellsOf t = 1) : OpensL P t layI64 1 (fun _ => True) := by
  refine ⟨hc, fun enc W held fuel cs x h k => ?_⟩
  obtain ⟨n, rfl, _, hw⟩ := DataW.trod_int ht h
  have hw : -9223372036854775808 ≤ n ∧ n ≤ 9223372036854775807 := by simpa [Lit.wf, IntKind.min, IntKind.max, IntKind.signed, IntKind.bits] using hw
  have e : (Int64.ofInt n).toInt = n := Int64.toInt_ofInt_of_le (by omega) (by omega)
  exact given_plain (Int64.ofInt n) rfl (fun _ => by show _ = _; rw [e]) trivial
theorem OpensL.string (ht : P.underlying t = some .string) (hc : P.cellsOf t = 1) : OpensL P t layStr 1 (fun a => a.length < 9223372036854775808) := by
  refine ⟨hc, fun enc W held fuel cs x h k => ?_⟩
  obtain ⟨s, rfl, _, hs⟩ := DataW.trod_string ht h
  obtain ⟨l, rfl⟩ := bs_of s
  rw [bs_size] at hs
  exact given_plain l rfl (fun _ => rfl) (Nat.lt_succ_of_le hs)
inductive SlL {α : Type} (L : Lay α) (n : Nat) (h : H) : Value → List α → Prop
  | nil : SlL L n h (.slice none 0 0) []
  | emp (a : Addr) (c : Nat) : SlL L n h (.slice (some a) 0 c) []
  | row (b c : Nat) (l : List α) (cells : List Value) (hg : h.get b = some ⟨cells, n, true⟩) (hl : cells.length = l.length * n) (he : ∀ (j : Nat) (y : α), l[j]? = some y → L h y ((cells.drop (j * n)).take n)) : SlL L n h (.slice (some ⟨b, 0, none⟩) l.length c) l
def laySl {α : Type} (L : Lay α) (n : Nat) : Lay (List α) := fun h l cs => ∃ V, cs = [V] ∧ SlL L n h V l
theorem chunk_append {α : Type} {a b : List α} {n q j : Nat} (ha : a.length = q * n) (hj : j < q) : ((a ++ b).drop (j * n)).take n = (a.drop (j * n)).take n := by
  have : (j + 1) * n ≤ q * n := Nat.mul_le_mul_right n (by omega)
  rw [Nat.add_mul, Nat.one_mul] at this
  rw [List.drop_append_of_le_length (by omega), List.take_append_of_le_length (by rw [List.length_drop]; omega)]
theorem chunk_last {α : Type} {a b : List α} {n q : Nat} (ha : a.length = q * n) (hb : b.length = n) : ((a ++ b).drop (q * n)).take n = b := by
  rw [← ha, List.drop_left, List.take_of_length_le (by omega)]
theorem OpensL.slice {α : Type} {L : Lay α} {n : Nat} {ok : α → Prop} (ht : P.underlying t = some (.slice e)) (hct : P.cellsOf t = 1) (hn : 0 < n) (h : OpensL P e L n ok) : OpensL P t (laySl L n) 1 (fun l => l.length < 9223372036854775808 ∧ ∀ x ∈ l, ok x) := by
  obtain ⟨hc, h⟩ := h
  refine ⟨hct, fun {Hh} enc W held fuel cs x hx k => ?_⟩
  rcases Go.Deep.open_slice ht hx with ⟨rfl, _⟩ | ⟨a, len, cap, m, fu, D, Pl, rfl, hb, hl, hm, hmm, _, hel⟩
  · exact ⟨[], [], [.slice none 0 0], rfl, rfl, fun r _ => ⟨fun p hp => by simp at hp, VL.cons .sl0 (VL.nil r)⟩, fun h _ => ⟨_, rfl, .nil⟩, by simp, by simp⟩
  have hmc : m = cap := by simpa using hmm
  subst hmc
  have hmx : m ≤ 9223372036854775807 := hm
  by_cases hlen : len = 0
  · subst hlen
    by_cases hcap : m = 0
    · subst hcap
      exact ⟨[], [], [.slice (some ⟨0, 0, none⟩) 0 1], rfl, rfl, fun r _ => ⟨fun p hp => by simp at hp, VL.cons (.sl (.inr rfl) (Nat.le_refl _) (by omega) (fun _ => rfl) (fun q => by omega)) (VL.nil r)⟩, fun h _ => ⟨_, rfl, .emp _ _⟩, by simp, by simp⟩
    ·
      obtain ⟨cs0, g0, _⟩ := hel 0 (by omega)
      have g4 := (World.cells?_some g0).2.2 0 (by rw [hc]; exact hn)
      have hl0 := (World.cells?_some g0).2.1
      obtain ⟨v0, hv0⟩ : ∃ v, cs0[0]? = some v := ⟨_, List.getElem?_eq_getElem (by rw [hl0, hc]; exact hn)⟩
      rw [hv0] at g4
      obtain ⟨hs, _⟩ := cell_heap g4
      have hspot : a.spot = none := by
        have : (a.add (0 * P.cellsOf e)).add 0 = a := by rw [Nat.zero_mul]; rfl
        rw [this] at hs; exact hs
      refine ⟨[], [(none, some ⟨a.block, a.off, 0, n⟩)], [.slice (some ⟨k, 0, none⟩) 0 (2 * m + 1)], rfl, rfl, fun r hr => ⟨fun p hp B hB => (by simp at hp; subst hp; cases hB), VL.cons (.sl (.inl ⟨rfl, _, hr 0 _ rfl, ?_⟩) (by omega) (by omega) (fun _ => by omega) (fun q => by omega)) (VL.nil r)⟩, fun h _ => ⟨_, rfl, .emp _ _⟩, by simp, by simp⟩
      obtain ⟨ab, ao, asp⟩ := a
      simp only at hspot; subst hspot; rfl
  have hq : ∀ q, q ≤ len → ∃ (l : List α) (bl : BL) (acs : List Value), l.length = q ∧ acs.length = q * n ∧ acs.all (·.oneCell') = true ∧ (∀ r, CompR r (k + 1) bl → (∀ p ∈ bl, BlkOK W r p) ∧ ∀ j, j < q → ∃ cs', W.cells? 0 (a.add (j * n)) n = some cs' ∧ VL r ((acs.drop (j * n)).take n) cs') ∧
      (∀ h, CompH h (k + 1) bl → ∀ (j : Nat) (y : α), l[j]? = some y → L h y ((acs.drop (j * n)).take n)) ∧ ∀ x ∈ l, ok x := by
    intro q
    induction q with
    | zero => intro _; exact ⟨[], [], [], rfl, by simp, rfl, fun r _ => ⟨fun p hp => by simp at hp, fun j hj => by omega⟩, fun h _ j y hj => by simp at hj, by simp⟩
    | succ q ih =>
      intro hq2
      obtain ⟨l, bl, acs, l1, l2, l3, l4, l5, l6⟩ := ih (by omega)
      obtain ⟨cs', g1, g2⟩ := hel q (by omega)
      rw [hc] at g1
      obtain ⟨y, bl2, acs2, m1, m2, m3, m4, m5⟩ := h enc W held fu cs' _ g2 (k + 1 + bl.length)
      refine ⟨l ++ [y], bl ++ bl2, acs ++ acs2, by simp [l1], by rw [List.length_append, l2, m1, Nat.add_mul, Nat.one_mul], by rw [List.all_append, l3, m2]; rfl, fun r hr => ⟨fun p hp => ?_, fun j hj => ?_⟩, fun h hh j z hj => ?_, fun z hz => ?_⟩
      · rcases List.mem_append.1 hp with hp | hp
        · exact (l4 r hr.left).1 p hp
        · exact (m3 r hr.right).1 p hp
      · by_cases hjq : j < q
        · rw [chunk_append l2 hjq]; exact (l4 r hr.left).2 j hjq
        · have : j = q := by omega
          subst this
          rw [chunk_last l2 m1]; exact ⟨cs', g1, (m3 r hr.right).2⟩
      · have hj2 := (List.getElem?_eq_some_iff.1 hj).1
        rw [List.length_append, l1] at hj2; simp at hj2
        by_cases hjq : j < q
        · rw [List.getElem?_append_left (by omega)] at hj
          rw [chunk_append l2 hjq]; exact l5 h hh.left j z hj
        · have : j = q := by omega
          subst this
          rw [List.getElem?_append_right (by omega), l1, Nat.sub_self] at hj
          simp at hj; subst hj
          rw [chunk_last l2 m1]; exact m4 h hh.right
      · rcases List.mem_append.1 hz with hz | hz
        · exact l6 z hz
        · rw [List.mem_singleton.1 hz]; exact m5
  obtain ⟨l, bl, acs, l1, l2, l3, l4, l5, l6⟩ := hq len (Nat.le_refl _)
  obtain ⟨cs0, g0, _⟩ := hel 0 (by omega)
  have g4 := (World.cells?_some g0).2.2 0 (by rw [hc]; exact hn)
  have hl0 := (World.cells?_some g0).2.1
  obtain ⟨v0, hv0⟩ : ∃ v, cs0[0]? = some v := ⟨_, List.getElem?_eq_getElem (by rw [hl0, hc]; exact hn)⟩
  rw [hv0] at g4
  obtain ⟨hs, c, el, fz, hh, hcell⟩ := cell_heap g4
  rw [(add_block _ _).1, (add_block _ _).1] at hh
  have hspot : a.spot = none := by
    have : (a.add (0 * P.cellsOf e)).add 0 = a := by rw [Nat.zero_mul]; rfl
    rw [this] at hs; exact hs
  have all : ∀ (j : Nat) (cs' : List Value), W.cells? 0 (a.add (j * n)) n = some cs' → ∀ (i : Nat) (v : Value), cs'[i]? = some v → c[a.off + (j * n + i)]? = some v := fun j cs' hy i v hv => by
    obtain ⟨_, q2, q3⟩ := World.cells?_some hy
    have hi : i < n := by have := (List.getElem?_eq_some_iff.1 hv).1; omega
    have q4 := q3 i hi
    rw [hv] at q4
    obtain ⟨_, c2, el2, fz2, hh2, hcell2⟩ := cell_heap q4
    rw [(add_block _ _).1, (add_block _ _).1, hh] at hh2
    cases hh2
    rw [(add_block _ _).2, (add_block _ _).2] at hcell2
    rw [← hcell2]; congr 1; omega
  have hsz : a.off + len * n ≤ c.size := by
    obtain ⟨csl, e1, _⟩ := hel (len - 1) (by omega)
    rw [hc] at e1
    have q2 := (World.cells?_some e1).2.1
    have hv := all (len - 1) csl e1 (n - 1) _ (List.getElem?_eq_getElem (by omega))
    have := (Array.getElem?_eq_some_iff.1 hv).1
    have e2 : (len - 1) * n + n = len * n := by
      obtain ⟨q, rfl⟩ : ∃ q, len = q + 1 := ⟨len - 1, by omega⟩
      simp only [Nat.add_sub_cancel, Nat.add_mul, Nat.one_mul]
    omega
  refine ⟨l, (some ⟨acs, n, true⟩, some ⟨a.block, a.off, len * n, n⟩) :: bl, [.slice (some ⟨k, 0, none⟩) len (2 * m + 1)], rfl, rfl, fun r hr => ?_, fun h hH => ?_, by omega, l6⟩
  · have hr0 : r k = some ⟨a.block, a.off, len * n, n⟩ := hr 0 _ rfl
    have hr1 : CompR r (k + 1) bl := fun i p hp => by rw [Nat.add_assoc, Nat.add_comm 1 i]; exact hr (i + 1) p hp
    obtain ⟨r1, r2⟩ := l4 r hr1
    refine ⟨fun p hp => ?_, VL.cons (.sl (.inl ⟨rfl, _, hr0, ?_⟩) hl (by omega) (fun _ => by omega) (fun q => by omega)) (VL.nil r)⟩
    · rcases List.mem_cons.1 hp with rfl | hp
      · intro B hB
        cases hB
        refine ⟨_, c, el, fz, rfl, hh, rfl, by show acs.length ≤ len * n; omega, hsz, rfl, fun i v hv => ⟨List.all_eq_true.1 l3 v (List.mem_of_getElem? hv), ?_⟩⟩
        have hi := (List.getElem?_eq_some_iff.1 hv).1
        have hv : acs[i]? = some v := hv
        have hi : i < acs.length := hi
        have hj : i / n < len := Nat.div_lt_of_lt_mul (by rw [Nat.mul_comm]; omega)
        have he : i = i / n * n + i % n := by rw [Nat.mul_comm]; exact (Nat.div_add_mod i n).symm
        obtain ⟨cs', s1, s2⟩ := r2 (i / n) hj
        have hk : ((acs.drop (i / n * n)).take n)[i % n]? = some v := by
          rw [List.getElem?_take, if_pos (Nat.mod_lt _ hn), List.getElem?_drop, ← he]; exact hv
        obtain ⟨v', t1, t2⟩ := s2.get hk
        refine ⟨v', ?_, t2⟩
        have := all (i / n) cs' s1 (i % n) v' t1
        rw [← he] at this; exact this
      · exact r1 p hp
    · obtain ⟨ab, ao, asp⟩ := a
      simp only at hspot; subst hspot; rfl
  · have h0 : h.get k = some ⟨acs, n, true⟩ := hH 0 _ rfl _ rfl
    have h1 : CompH h (k + 1) bl := fun i p hp B hB => by rw [Nat.add_assoc, Nat.add_comm 1 i]; exact hH (i + 1) p hp B hB
    refine ⟨_, rfl, ?_⟩
    have := SlL.row (L := L) (n := n) (h := h) k (2 * m + 1) l acs h0 (by rw [l2, l1]) (l5 h h1)
    rw [l1] at this; exact this
def OpensLF (P : Program) (fs : List (TypeId × Nat)) (o : Nat) {α : Type} (L : Lay α) (n : Nat) (ok : α → Prop) : Prop :=
  ∀ {Hh : Type} (enc : TypeId × Value → Hh) (W : World) (held : Bool) (fuel : Nat) (cs : List Value), cs.length = n →
    (∀ f ∈ fs, ∃ x, DataW.trod enc P W 0 (fun _ => true) held fuel f.1 ((cs.drop (f.2 - o)).take (P.cellsOf f.1)) = some x) → ∀ k, Given W k n L ok cs
theorem OpensLF.one {α : Type} {L : Lay α} {n : Nat} {ok : α → Prop} {o : Nat} (h : OpensL P t L n ok) : OpensLF P [(t, o)] o L n ok := by
  intro Hh enc W held fuel cs hl hf
  obtain ⟨x, hx⟩ := hf (t, o) (by simp)
  simp only [Nat.sub_self, List.drop_zero] at hx
  rw [List.take_of_length_le (by rw [h.1]; omega)] at hx
  exact h.2 enc W held fuel cs x hx
def layP {α β : Type} (L : Lay α) (M : Lay β) : Lay (α × β) := fun h x cs => ∃ c1 c2, cs = c1 ++ c2 ∧ L h x.1 c1 ∧ M h x.2 c2
theorem OpensLF.cons {α β : Type} {L : Lay α} {M : Lay β} {n m : Nat} {ok : α → Prop} {ok' : β → Prop} {o o' : Nat} {fs : List (TypeId × Nat)} (ho : o' = o + n) (hfs : ∀ f ∈ fs, o' ≤ f.2) (h : OpensL P t L n ok) (hr : OpensLF P fs o' M m ok') :
    OpensLF P ((t, o) :: fs) o (layP L M) (n + m) (fun x => ok x.1 ∧ ok' x.2) := by
  intro Hh enc W held fuel cs hl hf k
  obtain ⟨x, hx⟩ := hf (t, o) (by simp)
  simp only [Nat.sub_self, List.drop_zero] at hx
  rw [h.1] at hx
  obtain ⟨a, bl, acs, a1, a2, a3, a4, a5⟩ := h.2 enc W held fuel _ x hx k
  obtain ⟨b, bl2, acs2, b1, b2, b3, b4, b5⟩ := hr enc W held fuel (cs.drop n) (by rw [List.length_drop]; omega) (fun f hm => by
    obtain ⟨y, hy⟩ := hf f (by simp [hm])
    have := hfs f hm
    refine ⟨y, ?_⟩
    rw [List.drop_drop, show n + (f.2 - o') = f.2 - o from by omega]
    exact hy) (k + bl.length)
  refine ⟨(a, b), bl ++ bl2, acs ++ acs2, by rw [List.length_append, a1, b1], by rw [List.all_append, a2, b2]; rfl, fun r hr2 => ⟨fun p hp => ?_, ?_⟩, fun h hh => ⟨acs, acs2, rfl, a4 h hh.left, b4 h hh.right⟩, a5, b5⟩
  · rcases List.mem_append.1 hp with hp | hp
    · exact (a3 r hr2.left).1 p hp
    · exact (b3 r hr2.right).1 p hp
  · have := (a3 r hr2.left).2.append (b3 r hr2.right).2
    rwa [List.take_append_drop] at this
def fieldsOf (P : Program) (t : TypeId) : Option (List (TypeId × Nat)) :=
  match P.underlying t with
  | some (.struct fs) => some (fs.toList.map fun f => (f.type, f.offset))
  | _ => none
theorem OpensL.struct {α β : Type} {L : Lay β} {M : Lay α} {n : Nat} {ok : β → Prop} {ok' : α → Prop} {fs : List (TypeId × Nat)} (mk : β → α) (hM : ∀ h b cs, L h b cs → M h (mk b) cs) (hok : ∀ b, ok b → ok' (mk b)) (hfs : fieldsOf P t = some fs) (hc : P.cellsOf t = n) (h : OpensLF P fs 0 L n ok) : OpensL P t M n ok' := by
  refine ⟨hc, fun {Hh} enc W held fuel cs x hx k => ?_⟩
  unfold fieldsOf at hfs
  cases hu : P.underlying t with
  | none => rw [hu] at hfs; cases hfs
  | some u =>
    rw [hu] at hfs
    cases u with
    | struct fa =>
      simp only [Option.some.injEq] at hfs
      obtain ⟨xs, m, _, _, hl, hlen, hget⟩ := DataW.trod_struct hu hx
      obtain ⟨a, bl, acs, a1, a2, a3, a4, a5⟩ := h enc W held m cs (by rw [hl, hc]) (fun g hg => by
        rw [← hfs] at hg
        obtain ⟨fl, hfl, rfl⟩ := List.mem_map.1 hg
        obtain ⟨i, hi, hgi⟩ := List.mem_iff_getElem.1 hfl
        have hia : i < fa.size := by simpa using hi
        have h1 : fa[i]? = some fl := by
          rw [Array.getElem?_eq_getElem hia]
          simpa using hgi
        have h2 := hget i fl h1
        have hix : i < xs.length := by omega
        rw [List.getElem?_eq_getElem hix] at h2
        exact ⟨xs[i], by simpa using h2⟩) k
      exact ⟨mk a, bl, acs, a1, a2, a3, fun h hh => hM h a acs (a4 h hh), hok a a5⟩
    | _ => cases hfs
end
theorem SlL.sl {α : Type} {K : Row α} {h : H} {V : Value} {l : List α} (A : SlL (fun _ y cs => cs = K.cells y) K.n h V l) : K.Sl h V l := by
  cases A with
  | nil => exact .nil
  | emp a c => exact .emp a c
  | row b c l cells hg hl he =>
    have e : cells = K.flat l := by
      apply List.ext_getElem?
      intro i
      by_cases hi : i < cells.length
      · have hj : i / K.n < l.length := Nat.div_lt_of_lt_mul (by rw [Nat.mul_comm]; omega)
        have hi2 : i = i / K.n * K.n + i % K.n := by rw [Nat.mul_comm]; exact (Nat.div_add_mod i K.n).symm
        have h1 := he (i / K.n) _ (List.getElem?_eq_getElem hj)
        have h2 := K.flat_get l (i / K.n) _ (List.getElem?_eq_getElem hj)
        have h3 := congrArg (fun z : List Value => z[i % K.n]?) (h1.trans h2.symm)
        simp only [List.getElem?_take, if_pos (Nat.mod_lt i K.pos), List.getElem?_drop] at h3
        rw [← hi2] at h3; exact h3
      · rw [List.getElem?_eq_none (by omega), List.getElem?_eq_none (by rw [K.flat_length]; omega)]
    subst e
    exact .own hg
theorem rel_bl {W : World} {bl : BL} (hb : ∀ p ∈ bl, BlkOK W (rhoL (bl.map Prod.snd)) p) : Rel W.heap.size (rhoL (bl.map Prod.snd)) (args (bl.map Prod.fst)) W := by
  have pick : ∀ k B, (args (bl.map Prod.fst)).get k = some B → ∃ p, bl[k]? = some p ∧ p.1 = some B := fun k B e => by
    rw [args_get, List.getElem?_map] at e
    cases ho : bl[k]? with
    | none => rw [ho] at e; cases e
    | some p => rw [ho] at e; exact ⟨p, rfl, by simpa using e⟩
  have loc : ∀ k p, bl[k]? = some p → rhoL (bl.map Prod.snd) k = p.2 := fun k p e => by simp [rhoL, List.getElem?_map, e]
  refine ⟨fun k B e => ?_, fun n m Bn Bm L M e1 e2 hne hro => ?_, fun n hn => ?_, Nat.le_refl _, fun n B L e hro hL => ?_, fun n B L c el fz q1 q2 => ?_⟩
  · obtain ⟨p, h1, h2⟩ := pick k B e
    obtain ⟨L, c, el, fz, g1, g2, g3, g4, g5, g6, g7⟩ := hb p (List.mem_of_getElem? h1) B h2
    exact ⟨L, c, el, fz, by rw [loc k p h1, g1], g2, g3, g4, g5, fun q => by (rw [g6] at q; cases q), g7⟩
  · obtain ⟨p, h1, h2⟩ := pick n Bn e1
    obtain ⟨_, _, _, _, _, _, _, _, _, g6, _⟩ := hb p (List.mem_of_getElem? h1) Bn h2
    rw [g6] at hro; cases hro
  · rw [args_next, List.length_map] at hn
    simp [rhoL, List.getElem?_eq_none (show bl.length ≤ n by omega)]
  · obtain ⟨p, h1, h2⟩ := pick n B e
    obtain ⟨L', c, el, fz, g1, g2, _⟩ := hb p (List.mem_of_getElem? h1) B h2
    rw [loc n p h1, g1] at hL; cases hL
    exact (Array.getElem?_eq_some_iff.1 g2).1
  · obtain ⟨p, h1, h2⟩ := pick n B q1
    obtain ⟨_, _, _, _, _, _, _, _, _, g6, _⟩ := hb p (List.mem_of_getElem? h1) B h2
    rw [g6] at q2; cases q2
theorem compR_rho (bl : BL) : CompR (rhoL (bl.map Prod.snd)) 0 bl := fun i p hp => by simp [rhoL, List.getElem?_map, hp]
theorem compH_args (bl : BL) : CompH (args (bl.map Prod.fst)) 0 bl := fun i p hp B hB => by
  rw [args_get, List.getElem?_map, Nat.zero_add, hp]; simp [hB]
theorem wf_args (bl : BL) : Mem (args (bl.map Prod.fst)) (args (bl.map Prod.fst)) [] [] := Mem.start fun n B e => by
  rw [args_get] at e; rw [args_next]
  rcases Nat.lt_or_ge n (bl.map Prod.fst).length with q | q
  · exact q
  · rw [List.getElem?_eq_none q] at e; cases e
def GivenA (W : World) (k : Nat) (us us' : List Value) (bl : BL) : Prop := ∀ r, CompR r k bl → (∀ p ∈ bl, BlkOK W r p) ∧ VL r us us'
theorem GivenA.nil {W : World} {k : Nat} : GivenA W k [] [] [] := fun r _ => ⟨fun p hp => by simp at hp, VL.nil r⟩
theorem GivenA.cons {W : World} {k : Nat} {u u' : Value} {us us' : List Value} {bl bl2 : BL} (h1 : ∀ r, CompR r k bl → (∀ p ∈ bl, BlkOK W r p) ∧ VR r u u') (h2 : GivenA W (k + bl.length) us us' bl2) : GivenA W k (u :: us) (u' :: us') (bl ++ bl2) := fun r hr =>
  ⟨fun p hp => (List.mem_append.1 hp).elim ((h1 r hr.left).1 p) ((h2 r hr.right).1 p), VL.cons (h1 r hr.left).2 (h2 r hr.right).2⟩
theorem given_one {W : World} {k : Nat} {bl : BL} {u v : Value} (h : ∀ r, CompR r k bl → (∀ p ∈ bl, BlkOK W r p) ∧ VL r [u] [v]) : ∀ r, CompR r k bl → (∀ p ∈ bl, BlkOK W r p) ∧ VR r u v := fun r hr =>
  ⟨(h r hr).1, (h r hr).2.2 0 u v rfl rfl⟩
theorem one_of {l : List Value} (h : l.length = 1) : ∃ u, l = [u] := by
  match l, h with
  | [u], _ => exact ⟨u, rfl⟩
theorem law_calls {P : Program} {tab : Nat → Option FD} (hD : DrawOK P) (hT : TabOK P tab) {f : Nat} {W : World} {bl : BL} {us us' : List Value} (hb : ∀ r, CompR r 0 bl → (∀ p ∈ bl, BlkOK W r p) ∧ VL r us us')
    (hw : Cll tab f us (args (bl.map Prod.fst)) (fun v _ => v = .bool true)) : Calls P f us'.toArray W fun e W' => e = .returned (.bool true) ∧ Go.RowKit.Below W.heap.size W W' := by
  obtain ⟨v, h2, ⟨n, hr⟩, rfl⟩ := hw
  obtain ⟨b1, b2⟩ := hb _ (compR_rho bl)
  have R := rel_bl b1
  refine (run_table hD hT n f W.heap.size _ _ W us us' _ _ hr b2 R).2.mono fun e W' he => ?_
  obtain ⟨r2, v', rfl, hv, _, F, _⟩ := he
  cases hv
  exact ⟨rfl, F.below R⟩
end Go.Proofs.Ytfnhhelbegnopaa.Am
namespace Go.Proofs.Ytfnhhelbegnopaa.Wt
open Go Go.Proofs.Ytfnhhelbegnopaa.Am Go.Proofs.Ytfnhhelbegnopaa.IrAll
open Go.Proofs.Ytfnhhelbegnopaa.Am.WS renaming op → C
set_option linter.unusedVariables false
set_option linter.unusedSimpArgs false
theorem u64_inj {a b : UInt64} (h : a.toNat = b.toNat) : a = b := UInt64.toNat_inj.1 h
structure AcI where
  d : UInt8
  ky : List UInt8
  to : List UInt8
  va : List UInt8
  vn : UInt64
  ls : UInt64
  mo : Int64
  deriving DecidableEq
def AcI.cells (x : AcI) : List Value := [(.int .u8 (((x.d).toNat : Nat) : Int)), (.string (bs x.ky)), (.string (bs x.to)), (.string (bs x.va)), (.int .u64 (((x.vn).toNat : Nat) : Int)), (.int .u64 (((x.ls).toNat : Nat) : Int)), (.int .i64 (x.mo).toInt)]
def KAcI : Row AcI := ⟨AcI.cells, 7, fun _ => rfl, by decide, fun _ => rfl⟩
theorem Vl_eqV (x y : Vl) : eqV (.agg [(0, 2), (1, 1), (2, 1)]) (.agg (Vl.cells x).toArray) (.agg (Vl.cells y).toArray) = some (decide (x = y)) := by
  have e : eqV (.agg [(0, 2), (1, 1), (2, 1)]) (.agg (Vl.cells x).toArray) (.agg (Vl.cells y).toArray) = some ((((bs x.val).toList == (bs y.val).toList) && ((((x.ver.toNat : Nat) : Int) == ((y.ver.toNat : Nat) : Int)) && ((((x.lea.toNat : Nat) : Int) == ((y.lea.toNat : Nat) : Int)) && true)))) := rfl
  rw [e]; congr 1
  rw [Bool.eq_iff_iff]
  simp only [Bool.and_eq_true, beq_iff_eq, bs_toList, decide_eq_true_eq, Bool.and_true, and_true]
  constructor
  · intro h
    obtain ⟨h0, h1, h2⟩ := h
    obtain ⟨⟩ := x; obtain ⟨⟩ := y
    simp only at *
    rw [h0, u64_inj (Int.ofNat.inj h1), u64_inj (Int.ofNat.inj h2)]
  · intro h; subst h; exact ⟨rfl, rfl, rfl⟩
theorem opens_9 : OpensL Try.prog 9 layStr 1 (fun a => a.length < 9223372036854775808) := OpensL.string Try.underlying9 (by kernel_rfl)
theorem opens_24 : OpensL Try.prog 24 layU64 1 (fun _ => True) := OpensL.u64 Try.underlying24 (by kernel_rfl)
set_option maxRecDepth 100000 in
theorem opens_26 : OpensL Try.prog 26 (α := Vl) (fun _ y cs => cs = KVl.cells y) 3 (fun y => y.val.length < 9223372036854775808) := by
  refine OpensL.struct (fs := [(9, 0), (24, 1), (24, 2)]) (L := (layP layStr (layP layU64 layU64))) (mk := fun (a, b, c) => ⟨a, b, c⟩) ?_ ?_ (by kernel_rfl) (by kernel_rfl) (OpensLF.cons (by decide) (by decide) opens_9 (OpensLF.cons (by decide) (by decide) opens_24 (OpensLF.one opens_24)))
  · rintro h ⟨a, b, c⟩ cs ⟨_, _, rfl, rfl, ⟨_, _, rfl, rfl, rfl⟩⟩
    rfl
  · rintro ⟨a, b, c⟩ ⟨k0, k1, k2⟩
    exact k0
theorem opens_5 : OpensL Try.prog 5 layU8 1 (fun _ => True) := OpensL.u8 Try.underlying5 (by kernel_rfl)
theorem opens_3 : OpensL Try.prog 3 layI64 1 (fun _ => True) := OpensL.i64 Try.underlying3 (by kernel_rfl)
set_option maxRecDepth 100000 in
theorem opens_47 : OpensL Try.prog 47 (α := AcI) (fun _ y cs => cs = KAcI.cells y) 7 (fun y => y.ky.length < 9223372036854775808 ∧ y.to.length < 9223372036854775808 ∧ y.va.length < 9223372036854775808) := by
  refine OpensL.struct (fs := [(5, 0), (9, 1), (9, 2), (26, 3), (3, 6)]) (L := (layP layU8 (layP layStr (layP layStr (layP (fun _ y cs => cs = KVl.cells y) layI64))))) (mk := fun (d, ky, to, v, mo) => ⟨d, ky, to, v.val, v.ver, v.lea, mo⟩) ?_ ?_ (by kernel_rfl) (by kernel_rfl) (OpensLF.cons (by decide) (by decide) opens_5 (OpensLF.cons (by decide) (by decide) opens_9 (OpensLF.cons (by decide) (by decide) opens_9 (OpensLF.cons (by decide) (by decide) opens_26 (OpensLF.one opens_3)))))
  · rintro h ⟨d, ky, to, v, mo⟩ cs ⟨_, _, rfl, rfl, ⟨_, _, rfl, rfl, ⟨_, _, rfl, rfl, ⟨_, _, rfl, rfl, rfl⟩⟩⟩⟩
    rfl
  · rintro ⟨d, ky, to, v, mo⟩ ⟨k0, k1, k2, k3, k4⟩
    exact ⟨k1, k2, k3⟩
theorem opens_40 : OpensL Try.prog 40 (laySl (fun _ y cs => cs = KAcI.cells y) 7) 1 (fun l => l.length < 9223372036854775808 ∧ ∀ x ∈ l, (fun y => y.ky.length < 9223372036854775808 ∧ y.to.length < 9223372036854775808 ∧ y.va.length < 9223372036854775808) x) := OpensL.slice Try.underlying40 (by kernel_rfl) (by decide) opens_47
variable {h base : H} {L : List Seg} {R : List Nat}
theorem awake15_ran (W : Mem h h [] []) : Cll tab0 16 [] h (fun v h2 => v = .bool true ∧ Mem h h2 [] []) := ⟨_, h, awake_run h, rfl, W⟩
def stepL (LL : List (List It)) (a : AcI) : List (List It) := if a.d.toNat = 0 then putL LL ⟨a.ky, a.va, a.vn, a.ls⟩ else if a.d.toNat = 1 then delL LL a.ky else LL
def madeL (l : List AcI) : List (List It) := l.foldl stepL []
theorem put_lenB {LL : List (List It)} {it : It} {b : Nat} (h : Inv LL) (hn : LL.flatten.length ≤ b) : (putL LL it).flatten.length ≤ b + 1 := by
  rw [(flat_put h).1]; have := (putF_len (it := it) h.2).2; omega
theorem del_lenB {LL : List (List It)} {key : List UInt8} {b : Nat} (h : Inv LL) (hn : LL.flatten.length ≤ b) : (delL LL key).flatten.length ≤ b + 1 := by
  rw [(flat_del h).1]; have : (delF LL.flatten key).length ≤ LL.flatten.length := List.length_filter_le ..; omega
theorem step_inv {LL : List (List It)} {a : AcI} {b : Nat} (h : Inv LL) (hn : LL.flatten.length ≤ b) : Inv (stepL LL a) ∧ (stepL LL a).flatten.length ≤ b + 1 := by
  unfold stepL
  split
  · exact ⟨(flat_put h).2, put_lenB h hn⟩
  · split
    · exact ⟨(flat_del h).2, del_lenB h hn⟩
    · exact ⟨h, by omega⟩
theorem made_inv (l : List AcI) : Inv (madeL l) ∧ (madeL l).flatten.length ≤ l.length := by
  have : ∀ (l : List AcI) (LL : List (List It)) (b : Nat), Inv LL → LL.flatten.length ≤ b → Inv (l.foldl stepL LL) ∧ (l.foldl stepL LL).flatten.length ≤ b + l.length := by
    intro l
    induction l with
    | nil => intro LL b h hn; exact ⟨h, hn⟩
    | cons a l ih =>
      intro LL b h hn
      obtain ⟨q1, q2⟩ := step_inv (a := a) h hn
      obtain ⟨r1, r2⟩ := ih _ _ q1 q2
      exact ⟨r1, by rw [List.foldl_cons, List.length_cons]; omega⟩
  have q := this l [] 0 inv_nil (Nat.le_refl _)
  exact ⟨q.1, by rw [Nat.zero_add] at q; exact q.2⟩
theorem made_snoc {l : List AcI} {i : Nat} {a : AcI} (h : l[i]? = some a) : madeL (l.take (i + 1)) = stepL (madeL (l.take i)) a := by
  unfold madeL; rw [List.take_add_one, h]; simp
theorem range_all {F : List It} (h : F.length ≤ 1099511627776) : rangeF F [] [] (1099511627776 : Int) = F := by
  unfold rangeF geF
  have e1 : F.filter (fun x => !decide (kL x.ky [])) = F := filter_all fun x _ => by rw [decide_eq_false kL_nil]; rfl
  have e2 : F.filter (fun x => decide (okTo [] x)) = F := filter_all fun x _ => decide_eq_true (Or.inl rfl)
  rw [e1, e2, List.take_of_length_le (by omega)]
theorem great15_ran (W : Mem h h [] []) {V : Value} {l : List AcI} (A : KAcI.Sl h V l) (hbig : l.length < 9223372036854775808) : Cll tab0 17 [V] h (fun v h2 => ∃ g, v = .bool g ∧ (g = false → l.length ≤ 200) ∧ Mem h h2 [] []) := by
  obtain ⟨Pl, nl, rfl⟩ := A.shape
  refine Cll.code rfl rfl ?_
  refine WC.env [(0, _)] rfl ?_
  refine WC.seq (WC.run (C rfl rfl (WS.nil [(0, _)] rfl ?_)))
  refine WC.seq (WC.seq (WC.run (C rfl rfl (C rfl (op_lenVS A rfl) ?_))))
  refine WS.gtrN (a := (l).length) (b := 200) rfl rfl rfl (fun e7 => ?_) (fun e7 => ?_)
  ·
   refine WS.nil [(0, _), (7, _)] rfl ?_
   refine WC.condT rfl (WC.seq (WC.run (C rfl rfl (WS.nil [(2, _)] rfl ?_))))
   refine WC.ret (⟨[_], (res_tmp rfl res_nil), ?_⟩)
   exact ⟨true, rfl, fun q => (nomatch q), W.bare.take 0⟩
  ·
   refine WS.nil [(0, _), (7, _)] rfl ?_
   refine WC.condF rfl (WC.skip (WC.seq (WC.run (C rfl rfl (WS.nil [(0, _), (3, _)] rfl ?_)))))
   refine WC.seq (WC.seq (WC.run (C rfl rfl (WS.nil [(0, _), (3, _), (4, _)] rfl ?_))))
   refine WC.block ?_
   obtain ⟨L1, eL3, M2⟩ := Mem.name W.bare
   refine WC.loop (σ := Nat × Nat) (fun ((i, n)) => [(0, (.slice Pl l.length nl)), (3, (.int .i64 ((n : Nat) : Int))), (4, (.int .i64 ((i : Nat) : Int)))]) (fun ((i, n)) hh => Mem h hh (L1) [] ∧ i ≤ l.length ∧ n ≤ 60000 * i) (fun ((i, n)) => l.length - i) (0, 0) rfl ⟨M2, ?_⟩ ?_
   · exact ⟨by omega, by omega⟩
   ·rintro ⟨i, n⟩ h4 ⟨M5, ⟨hi, hn⟩⟩
    replace eL3 := eL3.symm; subst eL3
    refine WC.env [(0, _), (3, _), (4, _)] rfl ?_
    refine WC.seq (WC.seq (WC.run (C rfl rfl (C rfl rfl (C rfl (op_lenVS A rfl) ?_)))))
    refine WS.lssN (a := i) (b := (l).length) rfl rfl rfl (fun e11 => ?_) (fun e11 => ?_)
    ·
     refine WS.nil [(0, _), (3, _), (4, _), (11, _)] rfl ?_
     refine WC.condT rfl (WC.skip (WC.seq (WC.block (WC.seq (WC.seq (WC.run (C rfl rfl (C rfl rfl ?_))))))))
     obtain ⟨y16, hy16⟩ : ∃ y, (l)[i]? = some y := ⟨_, List.getElem?_eq_getElem (show i < (l).length by first | omega | (simp only [List.length_drop, List.length_take, List.length_append, List.length_cons, List.length_nil, List.length_singleton]; omega) | (simp only [List.length_drop, List.length_take, List.length_append, List.length_cons, List.length_nil, List.length_singleton] at *; omega))⟩
     refine WS.iaVS A i hy16 rfl rfl rfl rfl ?_
     intro b16_ o16_ ha16
     refine C rfl rfl (C rfl (op_ldH rfl (At.ld (k := 1) (ha16.mono M5.sub) rfl)) (C rfl (op_lenS (l := y16.ky) rfl) ?_))
     refine WS.gtrN (a := (y16.ky).length) (b := 20000) rfl rfl rfl (fun e20 => ?_) (fun e20 => ?_)
     ·
      refine C rfl rfl (WS.off rfl (WS.off rfl (WS.off rfl (WS.off rfl (WS.off rfl (WS.off rfl (WS.off rfl (C rfl rfl (C rfl rfl ?_)))))))))
      refine WS.off rfl (WS.off rfl (WS.off rfl (WS.off rfl (WS.off rfl (WS.off rfl (WS.off rfl (WS.off rfl (C rfl rfl (WS.nil [(0, _), (3, _), (4, _), (39, _)] rfl ?_)))))))))
      refine WC.condT rfl (WC.seq (WC.run (C rfl rfl (WS.nil [(2, _)] rfl ?_))))
      refine WC.ret (⟨[_], (res_tmp rfl res_nil), ?_⟩)
      exact ⟨true, rfl, fun q => (nomatch q), M5.bare.take 0⟩
     ·
      refine C rfl rfl (C rfl rfl (C rfl rfl ?_))
      refine WS.iaVS A i hy16 rfl rfl rfl rfl ?_
      intro b24_ o24_ ha24
      refine C rfl rfl (C rfl (op_ldH rfl (At.ld (k := 2) (ha24.mono M5.sub) rfl)) (C rfl (op_lenS (l := y16.to) rfl) ?_))
      refine WS.gtrN (a := (y16.to).length) (b := 20000) rfl rfl rfl (fun e28 => ?_) (fun e28 => ?_)
      ·
       refine C rfl rfl (C rfl rfl (WS.off rfl (WS.off rfl (WS.off rfl (WS.off rfl (WS.off rfl (WS.off rfl (WS.off rfl (WS.off rfl ?_)))))))))
       refine C rfl rfl (WS.nil [(0, _), (3, _), (4, _), (39, _)] rfl ?_)
       refine WC.condT rfl (WC.seq (WC.run (C rfl rfl (WS.nil [(2, _)] rfl ?_))))
       refine WC.ret (⟨[_], (res_tmp rfl res_nil), ?_⟩)
       exact ⟨true, rfl, fun q => (nomatch q), M5.bare.take 0⟩
      ·
       refine C rfl rfl (C rfl rfl (C rfl rfl (C rfl rfl ?_)))
       refine WS.iaVS A i hy16 rfl rfl rfl rfl ?_
       intro b33_ o33_ ha33
       refine C rfl rfl (C rfl rfl (C rfl (op_ldH rfl (At.ld (k := 3) (ha33.mono M5.sub) rfl)) (C rfl (op_lenS (l := y16.va) rfl) ?_)))
       refine WS.gtrN (a := (y16.va).length) (b := 20000) rfl rfl rfl (fun e38 => ?_) (fun e38 => ?_)
       ·
        refine C rfl rfl (WS.nil [(0, _), (3, _), (4, _), (39, _)] rfl ?_)
        refine WC.condT rfl (WC.seq (WC.run (C rfl rfl (WS.nil [(2, _)] rfl ?_))))
        refine WC.ret (⟨[_], (res_tmp rfl res_nil), ?_⟩)
        exact ⟨true, rfl, fun q => (nomatch q), M5.bare.take 0⟩
       ·
        refine C rfl rfl (WS.nil [(0, _), (3, _), (4, _), (39, _)] rfl ?_)
        refine WC.condF rfl (WC.skip (WC.draw M5 [] rfl ?_))
        intro rb6 h7 M8
        refine C rfl rfl (C rfl rfl (C rfl rfl ?_))
        refine WS.iaVS A i hy16 rfl rfl rfl rfl ?_
        intro b43_ o43_ ha43
        refine C rfl rfl (C rfl (op_ldH rfl (At.ld (k := 1) (ha43.mono M8.sub) rfl)) (C rfl (op_lenS (l := y16.ky) rfl) (WS.opV (.int .i64 (((n + (y16.ky).length) : Nat) : Int)) rfl rfl (add_i64 (a := n) (b := (y16.ky).length) (by omega)) (C rfl rfl (C rfl rfl ?_)))))
        refine WS.iaVS A i hy16 rfl rfl rfl rfl ?_
        intro b50_ o50_ ha50
        refine C rfl rfl (C rfl (op_ldH rfl (At.ld (k := 2) (ha50.mono M8.sub) rfl)) (C rfl (op_lenS (l := y16.to) rfl) (WS.opV (.int .i64 ((((n + (y16.ky).length) + (y16.to).length) : Nat) : Int)) rfl rfl (add_i64 (a := (n + (y16.ky).length)) (b := (y16.to).length) (by omega)) (C rfl rfl (C rfl rfl ?_)))))
        refine WS.iaVS A i hy16 rfl rfl rfl rfl ?_
        intro b57_ o57_ ha57
        refine C rfl rfl (C rfl rfl (C rfl (op_ldH rfl (At.ld (k := 3) (ha57.mono M8.sub) rfl)) (C rfl (op_lenS (l := y16.va) rfl) (WS.opV (.int .i64 (((((n + (y16.ky).length) + (y16.to).length) + (y16.va).length) : Nat) : Int)) rfl rfl (add_i64 (a := ((n + (y16.ky).length) + (y16.to).length)) (b := (y16.va).length) (by omega)) (C rfl rfl (WS.nil [(0, _), (3, _), (4, _)] rfl ?_))))))
        refine WC.run (C rfl rfl (WS.opV (.int .i64 (((i + 1) : Nat) : Int)) rfl rfl (add_i64 (a := i) (b := 1) (by omega)) (C rfl rfl (WS.nil [(0, _), (3, _), (4, _)] rfl ?_))))
        refine ⟨(i + 1, (((n + (y16.ky).length) + (y16.to).length) + (y16.va).length)), rfl, ⟨(M8.bare.bare.take 0), ?_⟩, ?_⟩
        · exact ⟨by omega, by omega⟩
        · simp only []; omega
    ·
     refine WS.nil [(0, _), (3, _), (4, _), (11, _)] rfl ?_
     refine WC.condF rfl (WC.exit ?_)
     refine WC.seq (WC.run (C rfl rfl ?_))
     refine WS.gtrN (a := n) (b := 20000) rfl rfl rfl (fun e64 => ?_) (fun e64 => ?_)
     ·
      refine C rfl rfl (WS.nil [(2, _)] rfl ?_)
      refine WC.ret (⟨[_], (res_tmp rfl res_nil), ?_⟩)
      exact ⟨true, rfl, fun q => (nomatch q), M5.bare.take 0⟩
     ·
      refine C rfl rfl (WS.nil [(2, _)] rfl ?_)
      refine WC.ret (⟨[_], (res_tmp rfl res_nil), ?_⟩)
      exact ⟨false, rfl, fun _ => by omega, M5.bare.take 0⟩
end Go.Proofs.Ytfnhhelbegnopaa.Wt
namespace Go.Proofs.Ytfnhhelbegnopaa.Wt
open Go Go.Proofs.Ytfnhhelbegnopaa.Am Go.Proofs.Ytfnhhelbegnopaa.IrAll
open Go.Proofs.Ytfnhhelbegnopaa.Am.WS renaming op → C
open List renaming length_take → D
open Go.Proofs.Ytfnhhelbegnopaa.Am.WS renaming nil → G
open List renaming length_cons → J
open List renaming length_nil → U
open List renaming length_singleton → X
open Go.Proofs.Ytfnhhelbegnopaa.Am.WC renaming run → Y
open Go.Proofs.Ytfnhhelbegnopaa.Am.WC renaming seq → AQ
open List renaming length_append → AX
open List renaming length_drop → AZ
set_option linter.unusedVariables false
set_option linter.unusedSimpArgs false
variable {h base h2 : H} {L : List Seg} {R : List Nat}
structure Rp where
  P : Option Addr
  c : Nat
  l : List It
def Rp.val (r : Rp) : Value := .slice r.P r.l.length r.c
def KRp : Row Rp := ⟨fun g => [g.val], 1, fun _ => rfl, by decide, fun _ => rfl⟩
def lstR (rs : List Rp) : List (List It) := rs.map Rp.l
structure RefR (h : H) (w : Nat) (rs : List Rp) : Prop where
  at_ : ∃ Vo, h.get w = some ⟨[Vo], 0, false⟩ ∧ KRp.Sl h Vo rs
  pg : ∀ r ∈ rs, KIt.Sl h r.val r.l
theorem RefR.mono {w : Nat} {rs : List Rp} (A : RefR h w rs) (hs : ∀ n B, h.get n = some B → h2.get n = some B) : RefR h2 w rs := by
  obtain ⟨⟨Vo, a, b⟩, c⟩ := A
  exact ⟨⟨Vo, hs _ _ a, b.mono hs⟩, fun g hg => (c g hg).mono hs⟩
theorem lstR_get {rs : List Rp} {i : Nat} {g : Rp} (h : rs[i]? = some g) : (lstR rs)[i]? = some g.l := by unfold lstR; rw [List.getElem?_map, h]; rfl
theorem lstR_get' {rs : List Rp} {i : Nat} {l : List It} (h : (lstR rs)[i]? = some l) : ∃ g, rs[i]? = some g ∧ g.l = l := by
  unfold lstR at h; rw [List.getElem?_map] at h
  cases q : rs[i]? with
  | none => rw [q] at h; cases h
  | some g => rw [q] at h; simp at h; exact ⟨g, rfl, h⟩
theorem memR {rs : List Rp} {g : Rp} (h : g ∈ rs) : g.l ∈ lstR rs := List.mem_map.2 ⟨g, h, rfl⟩
theorem fk_at {l : List It} {y : It} (h : l[0]? = some y) : fk l = y.ky := by
  cases l with
  | nil => simp at h
  | cons z r => simp at h; subst h; rfl
def HomeI (rs : List Rp) (key : List UInt8) (i n : Nat) : Prop := ∃ s, s ≤ i ∧ (∀ k r, k < s → rs[k]? = some r → ¬ kL key (fk r.l)) ∧ (∀ k r, s ≤ k → k < i → rs[k]? = some r → kL key (fk r.l)) ∧ n = s - 1
theorem homeI_zero (rs : List Rp) (key : List UInt8) : HomeI rs key 0 0 := ⟨0, by omega, fun k r h => by omega, fun k r _ h => by omega, rfl⟩
theorem homeI_le {rs : List Rp} {key : List UInt8} {i n : Nat} {y : Rp} (hI : Inv (lstR rs)) (hy : rs[i]? = some y) (h : HomeI rs key i n) (c : ¬ kL key (fk y.l)) : HomeI rs key (i + 1) i := by
  obtain ⟨s, h1, h2, h3, h4⟩ := h
  refine ⟨i + 1, by omega, fun k r hk hr => ?_, fun k r h1 h2 => by omega, rfl⟩
  by_cases q : k = i
  · subst q; rw [hy] at hr; cases hr; exact c
  · intro z
    exact c (kL_tr z (fk_rise hI (by omega) (lstR_get hr) (lstR_get hy)))
theorem homeI_gt {rs : List Rp} {key : List UInt8} {i n : Nat} {y : Rp} (hy : rs[i]? = some y) (h : HomeI rs key i n) (c : kL key (fk y.l)) : HomeI rs key (i + 1) n := by
  obtain ⟨s, h1, h2, h3, h4⟩ := h
  refine ⟨s, by omega, h2, fun k r hk hk2 hr => ?_, h4⟩
  by_cases q : k = i
  · subst q; rw [hy] at hr; cases hr; exact c
  · exact h3 k r hk (by omega) hr
theorem homeI_end {rs : List Rp} {key : List UInt8} {i n : Nat} (h : HomeI rs key i n) (hi : rs.length ≤ i) (hi2 : i ≤ rs.length) : n = home key (lstR rs) := by
  obtain ⟨s, h1, h2, h3, h4⟩ := h
  rw [h4]
  refine home_eq ⟨by simp only [lstR, List.length_map]; omega, fun k g hk hg => ?_, fun k g hk hg => ?_⟩
  · obtain ⟨r, hr, rfl⟩ := lstR_get' hg; exact h2 k r hk hr
  · obtain ⟨r, hr, rfl⟩ := lstR_get' hg
    have := (List.getElem?_eq_some_iff.1 hr).1
    exact h3 k r hk (by omega) hr
theorem rHome_ran (W : Mem h h [] []) {w : Nat} {rs : List Rp} {key : List UInt8} (A : RefR h w rs) (hI : Inv (lstR rs)) (hlen : rs.length ≤ 1000000) : Cll tab0 33 [.pointer (some ⟨w, 0, none⟩), .string (bs key)] h (fun v h2 => v = .int .i64 ((home key (lstR rs) : Nat) : Int) ∧ Mem h h2 [] []) := by
  obtain ⟨⟨Vo, hw, hOr⟩, hPr⟩ := A
  obtain ⟨Pl, nl, rfl⟩ := hOr.shape
  refine Cll.code rfl rfl ?_
  refine WC.env [(0, _), (1, _)] rfl ?_
  refine AQ (Y (C rfl rfl (G [(0, _), (1, _)] rfl ?_)))
  refine AQ (Y (C rfl rfl (G [(0, _), (1, _), (5, _)] rfl ?_)))
  refine AQ (AQ (Y (C rfl rfl (G [(0, _), (1, _), (5, _), (6, _)] rfl ?_))))
  refine WC.block ?_
  obtain ⟨L1, eL3, M2⟩ := Mem.name W.bare
  refine WC.loop (σ := Nat × Nat) (fun ((i, n)) => [(0, (.pointer (some ⟨w, 0, none⟩))), (1, (.string (bs key))), (5, (.int .i64 ((n : Nat) : Int))), (6, (.int .i64 ((i : Nat) : Int)))]) (fun ((i, n)) hh => Mem h hh (L1) [] ∧ HomeI rs key i n ∧ i ≤ rs.length) (fun ((i, n)) => rs.length - i) (0, 0) rfl ⟨M2, ?_⟩ ?_
  · exact ⟨homeI_zero _ _, by omega⟩
  ·rintro ⟨i, n⟩ h4 ⟨M5, ⟨hH, hi⟩⟩
   replace eL3 := eL3.symm; subst eL3
   refine WC.env [(0, _), (1, _), (5, _), (6, _)] rfl ?_
   refine AQ (AQ (Y (C rfl rfl (C rfl rfl (C rfl rfl (C rfl rfl (C rfl (op_ld (M5.sub _ _ hw) rfl rfl) (C rfl (op_lenVS hOr rfl) ?_))))))))
   refine WS.lssN (a := i) (b := (rs).length) rfl rfl rfl (fun e13 => ?_) (fun e13 => ?_)
   ·
    refine G [(0, _), (1, _), (5, _), (6, _), (13, _)] rfl ?_
    refine WC.condT rfl (WC.skip (AQ (WC.block (AQ (Y (C rfl rfl (C rfl rfl (C rfl rfl (C rfl (op_ld (M5.sub _ _ hw) rfl rfl) (C rfl rfl ?_))))))))))
    obtain ⟨y21, hy21⟩ : ∃ y, (rs)[i]? = some y := ⟨_, List.getElem?_eq_getElem (show i < (rs).length by first | omega | (simp only [AZ, D, AX, J, U, X]; omega) | (simp only [AZ, D, AX, J, U, X] at *; omega))⟩
    refine WS.iaVS hOr i hy21 rfl rfl rfl rfl ?_
    intro b21_ o21_ ha21
    refine C rfl (op_ldH rfl (At.ld0 (ha21.mono M5.sub) rfl)) ?_
    have h0 : 0 < y21.l.length := List.length_pos_iff.2 (hI.1 _ (memR (List.mem_of_getElem? hy21))).1
    obtain ⟨y23, hy23⟩ : ∃ y, (y21.l)[0]? = some y := ⟨_, List.getElem?_eq_getElem (show 0 < (y21.l).length by first | omega | (simp only [AZ, D, AX, J, U, X]; omega) | (simp only [AZ, D, AX, J, U, X] at *; omega))⟩
    refine WS.iaVS (hPr y21 (List.mem_of_getElem? hy21)) 0 hy23 rfl rfl rfl rfl ?_
    intro b23_ o23_ ha23
    refine C rfl rfl (C rfl (op_ldH rfl (At.ld0 (ha23.mono M5.sub) rfl)) (C rfl rfl ?_))
    refine WS.sleq (l := y23.ky) (m := key) rfl rfl rfl (fun e27 => ?_) (fun e27 => ?_)
    ·
     refine G [(0, _), (1, _), (5, _), (6, _), (27, _)] rfl ?_
     refine WC.condT rfl (Y (C rfl rfl (C rfl rfl (G [(0, _), (1, _), (5, _), (6, _)] rfl ?_))))
     refine Y (C rfl rfl (WS.opV (.int .i64 (((i + 1) : Nat) : Int)) rfl rfl (add_i64 (a := i) (b := 1) (by omega)) (C rfl rfl (G [(0, _), (1, _), (5, _), (6, _)] rfl ?_))))
     refine ⟨(i + 1, i), rfl, ⟨(M5.bare.take 0), ?_⟩, ?_⟩
     · exact ⟨homeI_le hI hy21 hH (by rw [fk_at hy23]; exact e27), by omega⟩
     · simp only []; omega
    ·
     refine G [(0, _), (1, _), (5, _), (6, _), (27, _)] rfl ?_
     refine WC.condF rfl (WC.skip (Y (C rfl rfl (WS.opV (.int .i64 (((i + 1) : Nat) : Int)) rfl rfl (add_i64 (a := i) (b := 1) (by omega)) (C rfl rfl (G [(0, _), (1, _), (5, _), (6, _)] rfl ?_))))))
     refine ⟨(i + 1, n), rfl, ⟨(M5.bare.take 0), ?_⟩, ?_⟩
     · exact ⟨homeI_gt hy21 hH (by rw [fk_at hy23]; exact e27), by omega⟩
     · simp only []; omega
   ·
    refine G [(0, _), (1, _), (5, _), (6, _), (13, _)] rfl ?_
    refine WC.condF rfl (WC.exit ?_)
    refine AQ (Y (C rfl rfl (C rfl rfl (G [(4, _)] rfl ?_))))
    refine WC.ret (⟨[_], (res_tmp rfl res_nil), ?_⟩)
    exact ⟨by rw [homeI_end hH (by omega) hi]; rfl, M5.bare.take 0⟩
theorem flat_take {rs : List Rp} {i : Nat} {y : Rp} (hy : rs[i]? = some y) : ((lstR rs).take (i + 1)).flatten = ((lstR rs).take i).flatten ++ y.l := by
  rw [List.take_add_one, lstR_get hy]; simp
theorem flat_take_le {rs : List Rp} {i : Nat} {y : Rp} (hy : rs[i]? = some y) : ((lstR rs).take i).flatten.length + y.l.length ≤ (lstR rs).flatten.length := by
  have e : (lstR rs).flatten = ((lstR rs).take (i + 1)).flatten ++ ((lstR rs).drop (i + 1)).flatten := by rw [← List.flatten_append, List.take_append_drop]
  rw [e, flat_take hy]; simp only [AX]; omega
theorem rall_ran (W : Mem h h [] []) {w : Nat} {rs : List Rp} (A : RefR h w rs) (hlen : rs.length ≤ 1000000) (hn : (lstR rs).flatten.length ≤ 900000) : Cll tab0 34 [.pointer (some ⟨w, 0, none⟩)] h (fun v h2 => ∃ S, KIt.Own v (lstR rs).flatten S ∧ Mem h h2 [S] []) := by
  obtain ⟨⟨Vo, hw, hOr⟩, hPr⟩ := A
  obtain ⟨Pl, nl, rfl⟩ := hOr.shape
  refine Cll.code rfl rfl ?_
  refine WC.env [(0, _)] rfl ?_
  refine AQ (Y (C rfl rfl (G [(0, _)] rfl ?_)))
  refine AQ (Y (C rfl rfl (G [(0, _), (3, _)] rfl ?_)))
  refine AQ (AQ (Y (C rfl rfl (G [(0, _), (3, _), (4, _)] rfl ?_))))
  refine WC.block ?_
  obtain ⟨L1, eL3, M2⟩ := Mem.name1 ((W.bare).nils)
  refine WC.loop (σ := Value × Seg × Nat) (fun ((V_, S_, i)) => [(0, (.pointer (some ⟨w, 0, none⟩))), (3, V_), (4, (.int .i64 ((i : Nat) : Int)))]) (fun ((V_, S_, i)) hh => Mem h hh (S_ :: L1) [] ∧ KIt.Own V_ ((lstR rs).take i).flatten S_ ∧ i ≤ rs.length) (fun ((V_, S_, i)) => rs.length - i) (_, _, 0) rfl ⟨M2, ?_⟩ ?_
  · exact ⟨.nil, by omega⟩
  ·rintro ⟨V_, S_, i⟩ h4 ⟨M5, ⟨hO_, hi⟩⟩
   replace eL3 := eL3.symm; subst eL3
   refine WC.env [(0, _), (3, _), (4, _)] rfl ?_
   refine AQ (AQ (Y (C rfl rfl (C rfl rfl (C rfl rfl (C rfl rfl (C rfl (op_ld (M5.sub _ _ hw) rfl rfl) (C rfl (op_lenVS hOr rfl) ?_))))))))
   refine WS.lssN (a := i) (b := (rs).length) rfl rfl rfl (fun e11 => ?_) (fun e11 => ?_)
   ·
    refine G [(0, _), (3, _), (4, _), (11, _)] rfl ?_
    refine WC.condT rfl (WC.skip (AQ (WC.block (Y (C rfl rfl (C rfl rfl (C rfl rfl (C rfl rfl (C rfl (op_ld (M5.sub _ _ hw) rfl rfl) (C rfl rfl ?_))))))))))
    obtain ⟨y20, hy20⟩ : ∃ y, (rs)[i]? = some y := ⟨_, List.getElem?_eq_getElem (show i < (rs).length by first | omega | (simp only [AZ, D, AX, J, U, X]; omega) | (simp only [AZ, D, AX, J, U, X] at *; omega))⟩
    refine WS.iaVS hOr i hy20 rfl rfl rfl rfl ?_
    intro b20_ o20_ ha20
    refine C rfl (op_ldH rfl (At.ld0 (ha20.mono M5.sub) rfl)) ?_
    refine WS.app (l := ((lstR rs).take i).flatten) (m := y20.l) (hO_) (M5.focus 0 rfl) (Row.Src.sl ((hPr y20 (List.mem_of_getElem? hy20)).mono M5.sub)) rfl (by have := flat_take_le hy20; omega) (by have := flat_take_le hy20; omega) rfl rfl rfl ?_
    intro V6 S7 h8 O9 M10
    obtain ⟨P11, rfl⟩ := Row.Own.shape O9
    refine C rfl rfl (G [(0, _), (3, _), (4, _)] rfl ?_)
    refine Y (C rfl rfl (WS.opV (.int .i64 (((i + 1) : Nat) : Int)) rfl rfl (add_i64 (a := i) (b := 1) (by omega)) (C rfl rfl (G [(0, _), (3, _), (4, _)] rfl ?_))))
    refine ⟨((.slice P11 ((((lstR rs).take i).flatten ++ y20.l)).length (2 * ((((lstR rs).take i).flatten ++ y20.l)).length)), S7, i + 1), rfl, ⟨((M10.bare.focus 0 rfl).take 1), ?_⟩, ?_⟩
    · exact ⟨by rw [flat_take hy20]; exact O9, by omega⟩
    · simp only []; omega
   ·
    refine G [(0, _), (3, _), (4, _), (11, _)] rfl ?_
    refine WC.condF rfl (WC.exit ?_)
    refine AQ (Y (C rfl rfl (C rfl rfl (G [(2, _)] rfl ?_))))
    refine WC.ret (⟨[_], (res_tmp rfl res_nil), ?_⟩)
    rw [List.take_of_length_le (by simp only [lstR, List.length_map]; omega)] at hO_
    exact ⟨S_, hO_, ((M5.bare.focus 0 rfl).take 1)⟩
theorem find_at {F : List It} {key : List UInt8} {i : Nat} {y : It} (hn : ∀ k x, k < i → F[k]? = some x → x.ky ≠ key) (hy : F[i]? = some y) (he : y.ky = key) : getF F key = some y := by
  have e : F = F.take i ++ y :: F.drop (i + 1) := by
    rw [← (List.getElem?_eq_some_iff.1 hy).2, List.getElem_cons_drop, List.take_append_drop]
  unfold getF
  rw [e, List.find?_append, List.find?_eq_none.2 (fun x hx => by
    obtain ⟨k, hk, rfl⟩ := List.getElem_of_mem hx
    rw [D] at hk
    have := hn k F[k] (by omega) (List.getElem?_eq_getElem (by omega))
    rw [List.getElem_take]; simpa using this), Option.none_or, List.find?_cons_of_pos (p := fun x : It => decide (x.ky = key)) (by simpa using he)]
theorem find_no {F : List It} {key : List UInt8} {i : Nat} (hn : ∀ k x, k < i → F[k]? = some x → x.ky ≠ key) (hi : F.length ≤ i) : getF F key = none :=
  get_none fun x hx => by
    obtain ⟨k, hk, rfl⟩ := List.getElem_of_mem hx
    exact hn k _ (by omega) (List.getElem?_eq_getElem hk)
theorem rGet_ran (W : Mem h h [] []) {w : Nat} {rs : List Rp} {key : List UInt8} (A : RefR h w rs) (hlen : rs.length ≤ 1000000) (hn : (lstR rs).flatten.length ≤ 900000) : Cll tab0 21 [.pointer (some ⟨w, 0, none⟩), .string (bs key)] h (fun v h2 => v = .tuple #[.agg (Vl.cells (getV (lstR rs).flatten key).1).toArray, .bool (getV (lstR rs).flatten key).2] ∧ Mem h h2 [] []) := by
  refine Cll.code rfl rfl ?_
  refine WC.env [(0, _), (1, _)] rfl ?_
  refine AQ (Y (WS.new W rfl ?_))
  intro p1 h2 M3
  refine C rfl rfl (G [(0, _), (1, _), (4, _)] rfl ?_)
  refine AQ (Y (C rfl rfl ?_))
  refine WS.call rfl rfl rfl (rall_ran M3.here (A.mono M3.sub) hlen hn) ?_
  rintro V9 h4 ⟨S7, O8, N5⟩
  have M6 := M3.trans N5
  obtain ⟨P10, rfl⟩ := Row.Own.shape O8
  replace M6 : Mem _ _ (S7 :: [(p1, _)] :: []) _ := M6
  refine C rfl rfl (G [(1, _), (4, _), (6, _)] rfl ?_)
  refine AQ (AQ (Y (C rfl rfl (G [(1, _), (4, _), (6, _), (7, _)] rfl ?_))))
  refine WC.block ?_
  obtain ⟨L11, eL13, M12⟩ := Mem.name M6.bare
  refine WC.loop (σ := Nat) (fun (i) => [(1, (.string (bs key))), (4, (.pointer (some ⟨p1, 0, none⟩))), (6, (.slice P10 ((lstR rs).flatten).length (2 * ((lstR rs).flatten).length))), (7, (.int .i64 ((i : Nat) : Int)))]) (fun (i) hh => Mem h hh (L11) [] ∧ i ≤ (lstR rs).flatten.length ∧ ∀ k x, k < i → (lstR rs).flatten[k]? = some x → x.ky ≠ key) (fun (i) => (lstR rs).flatten.length - i) (0) rfl ⟨M12, ?_⟩ ?_
  · exact ⟨by omega, fun k x q => by omega⟩
  ·rintro i h14 ⟨M15, ⟨hi, hN⟩⟩
   replace eL13 := eL13.symm; subst eL13
   refine WC.env [(1, _), (4, _), (6, _), (7, _)] rfl ?_
   refine AQ (AQ (Y (C rfl rfl (C rfl rfl (C rfl (op_lenVO O8 rfl) ?_)))))
   refine WS.lssN (a := i) (b := ((lstR rs).flatten).length) rfl rfl rfl (fun e13 => ?_) (fun e13 => ?_)
   ·
    refine G [(1, _), (4, _), (6, _), (7, _), (13, _)] rfl ?_
    refine WC.condT rfl (WC.skip (AQ (WC.block (AQ (Y (C rfl rfl (C rfl rfl ?_)))))))
    obtain ⟨y18, hy18⟩ : ∃ y, ((lstR rs).flatten)[i]? = some y := ⟨_, List.getElem?_eq_getElem (show i < ((lstR rs).flatten).length by first | omega | (simp only [AZ, D, AX, J, U, X]; omega) | (simp only [AZ, D, AX, J, U, X] at *; omega))⟩
    refine WS.iaVS (Row.Own.sl O8 (Mem.owni M15 0 rfl)) i hy18 rfl rfl rfl rfl ?_
    intro b18_ o18_ ha18
    refine C rfl rfl (C rfl (op_ldH rfl (At.ld0 ha18 rfl)) (C rfl rfl ?_))
    refine WS.seql (l := y18.ky) (m := key) rfl rfl rfl (fun e22 => ?_) (fun e22 => ?_)
    ·
     refine G [(1, _), (4, _), (6, _), (7, _), (22, _)] rfl ?_
     refine WC.condT rfl (AQ (Y (C rfl rfl (C rfl rfl ?_))))
     refine WS.iaVS (Row.Own.sl O8 (Mem.owni M15 0 rfl)) i hy18 rfl rfl rfl rfl ?_
     intro b25_ o25_ ha25
     refine C rfl rfl (C rfl (op_ldN rfl (At.ldsub ha25 (cs2 := [_, _, _]) rfl (Nat.le_of_ble_eq_true rfl))) ?_)
     refine WS.st1 (M15.focus 1 rfl) [_, _, _] [_, _, _] rfl rfl rfl rfl rfl (Nat.le_of_ble_eq_true rfl) (Nat.le_of_ble_eq_true rfl) rfl rfl ?_
     intro h16 M17
     replace M17 : Mem _ _ ([(p1, _)] :: S7 :: []) _ := M17
     refine C rfl rfl (G [(4, _), (5, _)] rfl ?_)
     refine WC.ret (⟨[_, _], (res_cellN [_, _, _] rfl (M17.at 0 rfl) (Nat.le_of_ble_eq_true rfl) rfl (res_tmp rfl res_nil)), ?_⟩)
     exact ⟨by unfold getV; rw [find_at hN hy18 e22]; rfl, M17.bare.take 0⟩
    ·
     refine G [(1, _), (4, _), (6, _), (7, _), (22, _)] rfl ?_
     refine WC.condF rfl (WC.skip (Y (C rfl rfl (WS.opV (.int .i64 (((i + 1) : Nat) : Int)) rfl rfl (add_i64 (a := i) (b := 1) (by omega)) (C rfl rfl (G [(1, _), (4, _), (6, _), (7, _)] rfl ?_))))))
     refine ⟨i + 1, rfl, ⟨(((M15.bare.focus 1 rfl).focus 1 rfl).take 2), ?_⟩, ?_⟩
     · exact ⟨by omega, fun k x q hx => if c : k = i then (by subst c; rw [hy18] at hx; cases hx; exact e22) else hN k x (by omega) hx⟩
     · simp only []; omega
   ·
    refine G [(1, _), (4, _), (6, _), (7, _), (13, _)] rfl ?_
    refine WC.condF rfl (WC.exit ?_)
    refine AQ (Y (WS.opV (.agg #[(.string (bs ([]))), (.int .u64 (0 : Int)), (.int .u64 (0 : Int))]) rfl rfl rfl ?_))
    refine WS.st1 (M15.focus 1 rfl) [_, _, _] [_, _, _] rfl rfl rfl rfl rfl (Nat.le_of_ble_eq_true rfl) (Nat.le_of_ble_eq_true rfl) rfl rfl ?_
    intro h18 M19
    replace M19 : Mem _ _ ([(p1, _)] :: S7 :: []) _ := M19
    refine C rfl rfl (G [(4, _), (5, _)] rfl ?_)
    refine WC.ret (⟨[_, _], (res_cellN [_, _, _] rfl (M19.at 0 rfl) (Nat.le_of_ble_eq_true rfl) rfl (res_tmp rfl res_nil)), ?_⟩)
    exact ⟨by unfold getV; rw [find_no hN (by omega)]; rfl, M19.bare.take 0⟩
theorem rSizes_ran (W : Mem h h [] []) {w : Nat} {rs : List Rp} (A : RefR h w rs) (hlen : rs.length ≤ 1000000) : Cll tab0 24 [.pointer (some ⟨w, 0, none⟩)] h (fun v h2 => ∃ S, KNi.Own v ((lstR rs).map List.length) S ∧ Mem h h2 [S] []) := by
  obtain ⟨⟨Vo, hw, hOr⟩, hPr⟩ := A
  obtain ⟨Pl, nl, rfl⟩ := hOr.shape
  refine Cll.code rfl rfl ?_
  refine WC.env [(0, _)] rfl ?_
  refine AQ (Y (C rfl rfl (G [(0, _)] rfl ?_)))
  refine AQ (Y (C rfl rfl (G [(0, _), (3, _)] rfl ?_)))
  refine AQ (AQ (Y (C rfl rfl (G [(0, _), (3, _), (4, _)] rfl ?_))))
  refine WC.block ?_
  obtain ⟨L1, eL3, M2⟩ := Mem.name1 ((W.bare).nils)
  refine WC.loop (σ := Value × Seg × Nat) (fun ((V_, S_, i)) => [(0, (.pointer (some ⟨w, 0, none⟩))), (3, V_), (4, (.int .i64 ((i : Nat) : Int)))]) (fun ((V_, S_, i)) hh => Mem h hh (S_ :: L1) [] ∧ KNi.Own V_ (((lstR rs).take i).map List.length) S_ ∧ i ≤ rs.length) (fun ((V_, S_, i)) => rs.length - i) (_, _, 0) rfl ⟨M2, ?_⟩ ?_
  · exact ⟨.nil, by omega⟩
  ·rintro ⟨V_, S_, i⟩ h4 ⟨M5, ⟨hO_, hi⟩⟩
   replace eL3 := eL3.symm; subst eL3
   refine WC.env [(0, _), (3, _), (4, _)] rfl ?_
   refine AQ (AQ (Y (C rfl rfl (C rfl rfl (C rfl rfl (C rfl rfl (C rfl (op_ld (M5.sub _ _ hw) rfl rfl) (C rfl (op_lenVS hOr rfl) ?_))))))))
   refine WS.lssN (a := i) (b := (rs).length) rfl rfl rfl (fun e11 => ?_) (fun e11 => ?_)
   ·
    refine G [(0, _), (3, _), (4, _), (11, _)] rfl ?_
    refine WC.condT rfl (WC.skip (AQ (WC.block (Y (C rfl rfl (C rfl rfl (C rfl rfl (C rfl rfl (C rfl (op_ld (M5.sub _ _ hw) rfl rfl) (C rfl rfl ?_))))))))))
    obtain ⟨y20, hy20⟩ : ∃ y, (rs)[i]? = some y := ⟨_, List.getElem?_eq_getElem (show i < (rs).length by first | omega | (simp only [AZ, D, AX, J, U, X]; omega) | (simp only [AZ, D, AX, J, U, X] at *; omega))⟩
    refine WS.iaVS hOr i hy20 rfl rfl rfl rfl ?_
    intro b20_ o20_ ha20
    refine C rfl (op_ldH rfl (At.ld0 (ha20.mono M5.sub) rfl)) (C rfl (op_lenVS (hPr y20 (List.mem_of_getElem? hy20)) rfl) ?_)
    refine WS.bsl M5 [_] rfl rfl rfl rfl ?_
    intro p6 h7 M8
    refine WS.app (l := (((lstR rs).take i).map List.length)) (m := [y20.l.length]) (hO_) (M8.focus 1 rfl) (Row.Src.one (K := KNi) (m := [y20.l.length]) (M8.at 0 rfl)) rfl (by simp only [lstR, List.length_map, D, J, U]; omega) (by simp only [lstR, List.length_map, D, J, U]; omega) rfl rfl rfl ?_
    intro V9 S10 h11 O12 M13
    obtain ⟨P14, rfl⟩ := Row.Own.shape O12
    refine C rfl rfl (G [(0, _), (3, _), (4, _)] rfl ?_)
    refine Y (C rfl rfl (WS.opV (.int .i64 (((i + 1) : Nat) : Int)) rfl rfl (add_i64 (a := i) (b := 1) (by omega)) (C rfl rfl (G [(0, _), (3, _), (4, _)] rfl ?_))))
    refine ⟨((.slice P14 (((((lstR rs).take i).map List.length) ++ [y20.l.length])).length (2 * (((((lstR rs).take i).map List.length) ++ [y20.l.length])).length)), S10, i + 1), rfl, ⟨((M13.bare.focus 0 rfl).take 1), ?_⟩, ?_⟩
    · exact ⟨by rw [List.take_add_one, lstR_get hy20]; simp only [Option.toList_some, List.map_append, List.map_cons, List.map_nil]; exact O12, by omega⟩
    · simp only []; omega
   ·
    refine G [(0, _), (3, _), (4, _), (11, _)] rfl ?_
    refine WC.condF rfl (WC.exit ?_)
    refine AQ (Y (C rfl rfl (C rfl rfl (G [(2, _)] rfl ?_))))
    refine WC.ret (⟨[_], (res_tmp rfl res_nil), ?_⟩)
    rw [List.take_of_length_le (by simp only [lstR, List.length_map]; omega)] at hO_
    exact ⟨S_, hO_, ((M5.bare.focus 0 rfl).take 1)⟩
def ok2 (fr to : List UInt8) (x : It) : Bool := !decide (kL x.ky fr) && decide (okTo to x)
theorem rangeF_ok2 (F : List It) (fr to : List UInt8) (most : Int) : rangeF F fr to most = (F.filter (ok2 fr to)).take most.toNat := by
  unfold rangeF geF
  rw [List.filter_filter]
  congr 2
  funext x
  unfold ok2; rw [Bool.and_comm]
theorem take_filter {F : List It} {p : It → Bool} {i : Nat} {x : It} (hx : F[i]? = some x) : (F.take (i + 1)).filter p = (F.take i).filter p ++ if p x = true then [x] else [] := by
  rw [List.take_add_one, hx, Option.toList_some, List.filter_append]
  congr 1
  by_cases c : p x = true
  · rw [if_pos c, List.filter_cons_of_pos c]; rfl
  · rw [if_neg c, List.filter_cons_of_neg c]; rfl
theorem rr_skip {F out : List It} {fr to : List UInt8} {most : Int} {i : Nat} {x : It} (h : out = ((F.take i).filter (ok2 fr to)).take most.toNat) (hx : F[i]? = some x) (hs : ok2 fr to x = false ∨ most ≤ (out.length : Int)) : out = ((F.take (i + 1)).filter (ok2 fr to)).take most.toNat := by
  rw [take_filter hx]
  rcases hs with hs | hs
  · rw [if_neg (by rw [hs]; simp), List.append_nil]; exact h
  · have hl := congrArg List.length h
    rw [D] at hl
    rw [List.take_append_of_le_length (by omega)]; exact h
theorem rr_take {F out : List It} {fr to : List UInt8} {most : Int} {i : Nat} {x : It} (h : out = ((F.take i).filter (ok2 fr to)).take most.toNat) (hx : F[i]? = some x) (ho : ok2 fr to x = true) (hm : (out.length : Int) < most) : out ++ [x] = ((F.take (i + 1)).filter (ok2 fr to)).take most.toNat := by
  have hl := congrArg List.length h
  rw [D] at hl
  have e : out = (F.take i).filter (ok2 fr to) := by rw [h, List.take_of_length_le (by omega)]
  rw [take_filter hx, if_pos ho, ← e, List.take_of_length_le (by simp; omega)]
set_option maxRecDepth 8000 in
theorem rRange_ran (W : Mem h h [] []) {w : Nat} {rs : List Rp} {fr to : List UInt8} {most : Int} (A : RefR h w rs) (hlen : rs.length ≤ 1000000) (hn : (lstR rs).flatten.length ≤ 900000) : Cll tab0 23 [.pointer (some ⟨w, 0, none⟩), .string (bs fr), .string (bs to), .int .i64 most] h (fun v h2 => ∃ S, KIt.Own v (rangeF (lstR rs).flatten fr to most) S ∧ Mem h h2 [S] []) := by
  refine Cll.code rfl rfl ?_
  refine WC.env [(0, _), (1, _), (2, _), (3, _)] rfl ?_
  refine AQ (Y (C rfl rfl (G [(0, _), (1, _), (2, _), (3, _)] rfl ?_)))
  refine AQ (Y (C rfl rfl ?_))
  refine WS.call rfl rfl rfl (rall_ran W.here (A.mono W.sub) hlen hn) ?_
  rintro V6 h1 ⟨S4, O5, N2⟩
  have M3 := W.trans N2
  obtain ⟨P7, rfl⟩ := Row.Own.shape O5
  replace M3 : Mem _ _ (S4 :: []) _ := M3
  refine C rfl rfl (G [(1, _), (2, _), (3, _), (9, _)] rfl ?_)
  refine AQ (Y (C rfl rfl (G [(1, _), (2, _), (3, _), (9, _), (10, _)] rfl ?_)))
  refine AQ (AQ (Y (C rfl rfl (G [(1, _), (2, _), (3, _), (9, _), (10, _), (11, _)] rfl ?_))))
  refine WC.block ?_
  obtain ⟨L8, eL10, M9⟩ := Mem.name1 ((M3.bare).nils)
  refine WC.loop (σ := Value × Seg × List It × Nat) (fun ((V_, S_, out, i)) => [(1, (.string (bs fr))), (2, (.string (bs to))), (3, (.int .i64 most)), (9, (.slice P7 ((lstR rs).flatten).length (2 * ((lstR rs).flatten).length))), (10, V_), (11, (.int .i64 ((i : Nat) : Int)))]) (fun ((V_, S_, out, i)) hh => Mem h hh (S_ :: L8) [] ∧ KIt.Own V_ out S_ ∧ out = (((lstR rs).flatten.take i).filter (ok2 fr to)).take most.toNat ∧ i ≤ (lstR rs).flatten.length) (fun ((V_, S_, out, i)) => (lstR rs).flatten.length - i) (_, _, [], 0) rfl ⟨M9, ?_⟩ ?_
  · exact ⟨.nil, by simp, by omega⟩
  ·rintro ⟨V_, S_, out, i⟩ h11 ⟨M12, ⟨hO_, hE, hi⟩⟩
   replace eL10 := eL10.symm; subst eL10
   refine WC.env [(1, _), (2, _), (3, _), (9, _), (10, _), (11, _)] rfl ?_
   refine AQ (AQ (Y (C rfl rfl (C rfl rfl (C rfl (op_lenVO O5 rfl) ?_)))))
   refine WS.lssN (a := i) (b := ((lstR rs).flatten).length) rfl rfl rfl (fun e17 => ?_) (fun e17 => ?_)
   ·
    refine G [(1, _), (2, _), (3, _), (9, _), (10, _), (11, _), (17, _)] rfl ?_
    refine WC.condT rfl (WC.skip (AQ (WC.block (AQ (Y (C rfl rfl (C rfl rfl ?_)))))))
    obtain ⟨y22, hy22⟩ : ∃ y, ((lstR rs).flatten)[i]? = some y := ⟨_, List.getElem?_eq_getElem (show i < ((lstR rs).flatten).length by first | omega | (simp only [AZ, D, AX, J, U, X]; omega) | (simp only [AZ, D, AX, J, U, X] at *; omega))⟩
    refine WS.iaVS (Row.Own.sl O5 (Mem.owni M12 1 rfl)) i hy22 rfl rfl rfl rfl ?_
    intro b22_ o22_ ha22
    refine C rfl rfl (C rfl (op_ldH rfl (At.ld0 ha22 rfl)) (C rfl rfl ?_))
    refine WS.sgeq (l := y22.ky) (m := fr) rfl rfl rfl (fun e26 => ?_) (fun e26 => ?_)
    ·
     refine C rfl rfl (C rfl rfl ?_)
     refine WS.seql (l := to) (m := []) rfl rfl rfl (fun e29 => ?_) (fun e29 => ?_)
     ·
      refine C rfl rfl (WS.off rfl (WS.off rfl (WS.off rfl (WS.off rfl (WS.off rfl (WS.off rfl (WS.off rfl (C rfl rfl (C rfl rfl ?_)))))))))
      refine C rfl rfl (C rfl rfl (C rfl (op_lenVO hO_ rfl) (C rfl rfl ?_)))
      refine WS.lss (a := (((out).length : Nat) : Int)) (b := most) rfl rfl rfl (fun e44 => ?_) (fun e44 => ?_)
      ·
       refine C rfl rfl (G [(1, _), (2, _), (3, _), (9, _), (10, _), (11, _), (45, _)] rfl ?_)
       refine WC.condT rfl (Y (C rfl rfl (C rfl rfl (C rfl rfl ?_))))
       refine WS.iaVS (Row.Own.sl O5 (Mem.owni M12 1 rfl)) i hy22 rfl rfl rfl rfl ?_
       intro b49_ o49_ ha49
       refine C rfl (op_ldAt rfl ha49 rfl) ?_
       refine WS.bsl M12 [_, _, _, _] rfl rfl rfl rfl ?_
       intro p13 h14 M15
       refine WS.app (l := out) (m := [y22]) (hO_) (M15.focus 1 rfl) (Row.Src.one (K := KIt) (m := [y22]) (M15.at 0 rfl)) rfl (by have := congrArg List.length hE; have q := List.length_filter_le (ok2 fr to) ((lstR rs).flatten.take i); simp only [D, J, U] at this q ⊢; omega) (by have := congrArg List.length hE; have q := List.length_filter_le (ok2 fr to) ((lstR rs).flatten.take i); simp only [D, J, U] at this q ⊢; omega) rfl rfl rfl ?_
       intro V16 S17 h18 O19 M20
       obtain ⟨P21, rfl⟩ := Row.Own.shape O19
       refine C rfl rfl (G [(1, _), (2, _), (3, _), (9, _), (10, _), (11, _)] rfl ?_)
       refine Y (C rfl rfl (WS.opV (.int .i64 (((i + 1) : Nat) : Int)) rfl rfl (add_i64 (a := i) (b := 1) (by omega)) (C rfl rfl (G [(1, _), (2, _), (3, _), (9, _), (10, _), (11, _)] rfl ?_))))
       refine ⟨((.slice P21 ((out ++ [y22])).length (2 * ((out ++ [y22])).length)), S17, (out ++ [y22]), i + 1), rfl, ⟨(((M20.bare.focus 2 rfl).focus 1 rfl).take 2), ?_⟩, ?_⟩
       · exact ⟨O19, rr_take hE hy22 (by unfold ok2 okTo; simp_all) (by omega), by omega⟩
       · simp only []; omega
      ·
       refine C rfl rfl (G [(1, _), (2, _), (3, _), (9, _), (10, _), (11, _), (45, _)] rfl ?_)
       refine WC.condF rfl (WC.skip (Y (C rfl rfl (WS.opV (.int .i64 (((i + 1) : Nat) : Int)) rfl rfl (add_i64 (a := i) (b := 1) (by omega)) (C rfl rfl (G [(1, _), (2, _), (3, _), (9, _), (10, _), (11, _)] rfl ?_))))))
       refine ⟨(V_, S_, out, i + 1), rfl, ⟨(((M12.bare.focus 1 rfl).focus 1 rfl).take 2), ?_⟩, ?_⟩
       · exact ⟨hO_, rr_skip hE hy22 (by first | exact Or.inr (by omega) | (left; unfold ok2 okTo; simp_all)), by omega⟩
       · simp only []; omega
     ·
      refine C rfl rfl (C rfl rfl (C rfl rfl ?_))
      refine WS.iaVS (Row.Own.sl O5 (Mem.owni M12 1 rfl)) i hy22 rfl rfl rfl rfl ?_
      intro b33_ o33_ ha33
      refine C rfl rfl (C rfl (op_ldH rfl (At.ld0 ha33 rfl)) (C rfl rfl ?_))
      refine WS.slss (l := y22.ky) (m := to) rfl rfl rfl (fun e37 => ?_) (fun e37 => ?_)
      ·
       refine C rfl rfl (C rfl rfl (C rfl rfl (C rfl rfl (C rfl (op_lenVO hO_ rfl) (C rfl rfl ?_)))))
       refine WS.lss (a := (((out).length : Nat) : Int)) (b := most) rfl rfl rfl (fun e44 => ?_) (fun e44 => ?_)
       ·
        refine C rfl rfl (G [(1, _), (2, _), (3, _), (9, _), (10, _), (11, _), (45, _)] rfl ?_)
        refine WC.condT rfl (Y (C rfl rfl (C rfl rfl (C rfl rfl ?_))))
        refine WS.iaVS (Row.Own.sl O5 (Mem.owni M12 1 rfl)) i hy22 rfl rfl rfl rfl ?_
        intro b49_ o49_ ha49
        refine C rfl (op_ldAt rfl ha49 rfl) ?_
        refine WS.bsl M12 [_, _, _, _] rfl rfl rfl rfl ?_
        intro p22 h23 M24
        refine WS.app (l := out) (m := [y22]) (hO_) (M24.focus 1 rfl) (Row.Src.one (K := KIt) (m := [y22]) (M24.at 0 rfl)) rfl (by have := congrArg List.length hE; have q := List.length_filter_le (ok2 fr to) ((lstR rs).flatten.take i); simp only [D, J, U] at this q ⊢; omega) (by have := congrArg List.length hE; have q := List.length_filter_le (ok2 fr to) ((lstR rs).flatten.take i); simp only [D, J, U] at this q ⊢; omega) rfl rfl rfl ?_
        intro V25 S26 h27 O28 M29
        obtain ⟨P30, rfl⟩ := Row.Own.shape O28
        refine C rfl rfl (G [(1, _), (2, _), (3, _), (9, _), (10, _), (11, _)] rfl ?_)
        refine Y (C rfl rfl (WS.opV (.int .i64 (((i + 1) : Nat) : Int)) rfl rfl (add_i64 (a := i) (b := 1) (by omega)) (C rfl rfl (G [(1, _), (2, _), (3, _), (9, _), (10, _), (11, _)] rfl ?_))))
        refine ⟨((.slice P30 ((out ++ [y22])).length (2 * ((out ++ [y22])).length)), S26, (out ++ [y22]), i + 1), rfl, ⟨(((M29.bare.focus 2 rfl).focus 1 rfl).take 2), ?_⟩, ?_⟩
        · exact ⟨O28, rr_take hE hy22 (by unfold ok2 okTo; simp_all) (by omega), by omega⟩
        · simp only []; omega
       ·
        refine C rfl rfl (G [(1, _), (2, _), (3, _), (9, _), (10, _), (11, _), (45, _)] rfl ?_)
        refine WC.condF rfl (WC.skip (Y (C rfl rfl (WS.opV (.int .i64 (((i + 1) : Nat) : Int)) rfl rfl (add_i64 (a := i) (b := 1) (by omega)) (C rfl rfl (G [(1, _), (2, _), (3, _), (9, _), (10, _), (11, _)] rfl ?_))))))
        refine ⟨(V_, S_, out, i + 1), rfl, ⟨(((M12.bare.focus 1 rfl).focus 1 rfl).take 2), ?_⟩, ?_⟩
        · exact ⟨hO_, rr_skip hE hy22 (by first | exact Or.inr (by omega) | (left; unfold ok2 okTo; simp_all)), by omega⟩
        · simp only []; omega
      ·
       refine C rfl rfl (C rfl rfl (C rfl rfl (WS.off rfl (WS.off rfl (WS.off rfl (WS.off rfl (C rfl rfl (G [(1, _), (2, _), (3, _), (9, _), (10, _), (11, _), (45, _)] rfl ?_))))))))
       refine WC.condF rfl (WC.skip (Y (C rfl rfl (WS.opV (.int .i64 (((i + 1) : Nat) : Int)) rfl rfl (add_i64 (a := i) (b := 1) (by omega)) (C rfl rfl (G [(1, _), (2, _), (3, _), (9, _), (10, _), (11, _)] rfl ?_))))))
       refine ⟨(V_, S_, out, i + 1), rfl, ⟨(((M12.bare.focus 1 rfl).focus 1 rfl).take 2), ?_⟩, ?_⟩
       · exact ⟨hO_, rr_skip hE hy22 (by first | exact Or.inr (by omega) | (left; unfold ok2 okTo; simp_all)), by omega⟩
       · simp only []; omega
    ·
     refine C rfl rfl (WS.off rfl (WS.off rfl (WS.off rfl (WS.off rfl (WS.off rfl (WS.off rfl (WS.off rfl (WS.off rfl (WS.off rfl ?_)))))))))
     refine WS.off rfl (WS.off rfl (C rfl rfl (C rfl rfl (WS.off rfl (WS.off rfl (WS.off rfl (WS.off rfl (C rfl rfl (G [(1, _), (2, _), (3, _), (9, _), (10, _), (11, _), (45, _)] rfl ?_)))))))))
     refine WC.condF rfl (WC.skip (Y (C rfl rfl (WS.opV (.int .i64 (((i + 1) : Nat) : Int)) rfl rfl (add_i64 (a := i) (b := 1) (by omega)) (C rfl rfl (G [(1, _), (2, _), (3, _), (9, _), (10, _), (11, _)] rfl ?_))))))
     refine ⟨(V_, S_, out, i + 1), rfl, ⟨(((M12.bare.focus 1 rfl).focus 1 rfl).take 2), ?_⟩, ?_⟩
     · exact ⟨hO_, rr_skip hE hy22 (by first | exact Or.inr (by omega) | (left; unfold ok2 okTo; simp_all)), by omega⟩
     · simp only []; omega
   ·
    refine G [(1, _), (2, _), (3, _), (9, _), (10, _), (11, _), (17, _)] rfl ?_
    refine WC.condF rfl (WC.exit ?_)
    refine AQ (Y (C rfl rfl (C rfl rfl (G [(8, _)] rfl ?_))))
    refine WC.ret (⟨[_], (res_tmp rfl res_nil), ?_⟩)
    have e9 : (lstR rs).flatten.take i = (lstR rs).flatten := List.take_of_length_le (by omega)
    rw [e9, ← rangeF_ok2] at hE
    rw [hE] at hO_
    exact ⟨S_, hO_, ((M12.bare.focus 0 rfl).take 1)⟩
end Go.Proofs.Ytfnhhelbegnopaa.Wt
namespace Go.Proofs.Ytfnhhelbegnopaa.Wt
open Go Go.Proofs.Ytfnhhelbegnopaa.Am Go.Proofs.Ytfnhhelbegnopaa.IrAll
open Go.Proofs.Ytfnhhelbegnopaa.Am.WS renaming op → D
open Nat renaming le_of_ble_eq_true → F
open List renaming length_cons → G
open List renaming length_nil → U
open Go.Proofs.Ytfnhhelbegnopaa.Am.WS renaming nil → X
open List renaming length_append → Y
open Go.Proofs.Ytfnhhelbegnopaa.Am.WC renaming run → AQ
open Go.Proofs.Ytfnhhelbegnopaa.Am.WC renaming seq → AX
open List renaming length_take → AZ
set_option linter.unusedVariables false
set_option linter.unusedSimpArgs false
variable {h base h2 : H} {L : List Seg} {R : List Nat}
theorem own_row {α : Type} {K : Row α} {P : Option Addr} {n c : Nat} {l : List α} {S : Seg} (O : K.Own (.slice P n c) l S) (hne : l ≠ []) : ∃ p, P = some ⟨p, 0, none⟩ ∧ S = [(p, ⟨K.flat l, K.n, false⟩)] := by
  generalize hv : Value.slice P n c = v at O
  cases O with
  | nil => exact absurd rfl hne
  | row p l h => cases hv; exact ⟨p, rfl, rfl⟩
theorem home_there {rs : List Rp} (hI : Inv (lstR rs)) (hne : rs ≠ []) (key : List UInt8) : ∃ y, rs[home key (lstR rs)]? = some y ∧ y ∈ rs := by
  obtain ⟨A, g, B, e, hA, _, _⟩ := home_split hI (by unfold lstR; simpa using hne) key
  have : (lstR rs)[home key (lstR rs)]? = some g := by
    rw [← hA, e]; simp
  obtain ⟨y, hy, _⟩ := lstR_get' this
  exact ⟨y, hy, List.mem_of_getElem? hy⟩
def PgI (l : List It) (it : It) (i : Nat) (dn : Bool) (pg : List It) : Prop := i ≤ l.length ∧ (dn = false → (∀ x ∈ l.take i, kL x.ky it.ky) ∧ pg = l.take i) ∧ (dn = true → pg = putF (l.take i) it ∧ ∃ x ∈ l.take i, ¬ kL x.ky it.ky)
theorem pgi_zero (l : List It) (it : It) : PgI l it 0 false [] := ⟨Nat.zero_le _, fun _ => ⟨fun x hx => by simp at hx, by simp⟩, fun q => by cases q⟩
theorem take_snoc {l : List It} {i : Nat} {x : It} (hx : l[i]? = some x) : l.take (i + 1) = l.take i ++ [x] := by rw [List.take_add_one, hx]; rfl
theorem put_low {l : List It} {it : It} (h : ∀ x ∈ l, kL x.ky it.ky) : putF l it = l ++ [it] := by
  unfold putF; rw [(filter_lt_A h).1, (filter_lt_A h).2]
theorem put_snoc {l : List It} {it x : It} : putF (l ++ [x]) it = if kL x.ky it.ky then l.filter (fun x => decide (kL x.ky it.ky)) ++ (x :: it :: l.filter (fun x => decide (kL it.ky x.ky))) else if kL it.ky x.ky then putF l it ++ [x] else putF l it := by
  unfold putF
  simp only [List.filter_append, List.filter_cons, List.filter_nil]
  by_cases c : kL x.ky it.ky
  · rw [if_pos c, if_pos (by simpa using c), if_neg (by simpa using kL_asym c)]; simp
  · rw [if_neg c, if_neg (by simpa using c)]
    by_cases d : kL it.ky x.ky
    · rw [if_pos d, if_pos (by simpa using d)]; simp
    · rw [if_neg d, if_neg (by simpa using d)]; simp
theorem putF_len' {l : List It} {it : It} : (putF l it).length ≤ l.length + 1 := by
  have h1 : (l.filter (fun x => decide (kL x.ky it.ky))).length + (l.filter (fun x => decide (kL it.ky x.ky))).length ≤ l.length := by
    induction l with
    | nil => simp
    | cons x g ih =>
      simp only [List.filter_cons]
      by_cases c1 : kL x.ky it.ky
      · rw [if_pos (by simpa using c1), if_neg (by simpa using kL_asym c1)]; simp only [G]; omega
      · rw [if_neg (by simpa using c1)]
        split <;> simp only [G] <;> omega
  unfold putF; simp only [Y, G]; omega
theorem pgi_len {l pg : List It} {it : It} {i : Nat} {dn : Bool} (h : PgI l it i dn pg) : pg.length ≤ l.length + 1 := by
  cases dn with
  | false => rw [(h.2.1 rfl).2, AZ]; omega
  | true => rw [(h.2.2 rfl).1]; have := putF_len' (l := l.take i) (it := it); rw [AZ] at this; omega
theorem pgi_low {l pg : List It} {it x : It} {i : Nat} (h : PgI l it i false pg) (hx : l[i]? = some x) (c : kL x.ky it.ky) : PgI l it (i + 1) false (pg ++ [x]) := by
  obtain ⟨h1, h2, h3⟩ := h
  refine ⟨by have := (List.getElem?_eq_some_iff.1 hx).1; omega, fun _ => ⟨fun z hz => ?_, by rw [take_snoc hx, (h2 rfl).2]⟩, fun q => by cases q⟩
  rw [take_snoc hx] at hz
  rcases List.mem_append.1 hz with q | q
  · exact (h2 rfl).1 z q
  · rw [List.mem_singleton] at q; subst q; exact c
theorem pgi_new {l pg : List It} {it x : It} {i : Nat} (h : PgI l it i false pg) (hx : l[i]? = some x) (c : ¬ kL x.ky it.ky) (d : x.ky ≠ it.ky) : PgI l it (i + 1) true ((pg ++ [it]) ++ [x]) := by
  obtain ⟨h1, h2, h3⟩ := h
  refine ⟨by have := (List.getElem?_eq_some_iff.1 hx).1; omega, fun q => (by cases q), fun _ => ⟨?_, x, by rw [take_snoc hx]; simp, c⟩⟩
  rw [take_snoc hx, put_snoc, if_neg c, if_pos (Classical.byContradiction fun q => d (kL_tot c q)), put_low (h2 rfl).1, (h2 rfl).2]
theorem pgi_eq {l pg : List It} {it x : It} {i : Nat} (h : PgI l it i false pg) (hx : l[i]? = some x) (c : ¬ kL x.ky it.ky) (d : x.ky = it.ky) : PgI l it (i + 1) true (pg ++ [it]) := by
  obtain ⟨h1, h2, h3⟩ := h
  refine ⟨by have := (List.getElem?_eq_some_iff.1 hx).1; omega, fun q => (by cases q), fun _ => ⟨?_, x, by rw [take_snoc hx]; simp, c⟩⟩
  rw [take_snoc hx, put_snoc, if_neg c, if_neg (by rw [d]; exact kL_irr), put_low (h2 rfl).1, (h2 rfl).2]
theorem pgi_gt {l pg : List It} {it x : It} {i : Nat} (hs : SrtI l) (h : PgI l it i true pg) (hx : l[i]? = some x) : kL it.ky x.ky := by
  obtain ⟨z, hz, q⟩ := (h.2.2 rfl).2
  obtain ⟨k, hk, rfl⟩ := List.getElem_of_mem hz
  rw [AZ] at hk
  rw [List.getElem_take] at q
  exact kL_le_lt q (srt_get hs (i := k) (j := i) (by omega) (List.getElem?_eq_getElem (by omega)) hx)
theorem pgi_hi {l pg : List It} {it x : It} {i : Nat} (hs : SrtI l) (h : PgI l it i true pg) (hx : l[i]? = some x) : PgI l it (i + 1) true (pg ++ [x]) := by
  have hk := pgi_gt hs h hx
  obtain ⟨h1, h2, h3⟩ := h
  obtain ⟨z, hz, q⟩ := (h3 rfl).2
  refine ⟨by have := (List.getElem?_eq_some_iff.1 hx).1; omega, fun q => (by cases q), fun _ => ⟨?_, z, by rw [take_snoc hx]; exact List.mem_append_left _ hz, q⟩⟩
  rw [take_snoc hx, put_snoc, if_neg (kL_asym hk), if_pos hk, (h3 rfl).1]
def outI (rs m : List Rp) (H i : Nat) : List Rp := if i ≤ H then rs.take i else rs.take H ++ m ++ (rs.take i).drop (H + 1)
theorem outI_zero (rs m : List Rp) (H : Nat) : outI rs m H 0 = [] := by unfold outI; rw [if_pos (Nat.zero_le _)]; rfl
theorem outI_other {rs m : List Rp} {H i : Nat} {y : Rp} (hy : rs[i]? = some y) (hne : i ≠ H) : outI rs m H i ++ [y] = outI rs m H (i + 1) := by
  have hi := (List.getElem?_eq_some_iff.1 hy).1
  have e : rs.take (i + 1) = rs.take i ++ [y] := by rw [List.take_add_one, hy]; rfl
  unfold outI
  by_cases c : i ≤ H
  · rw [if_pos c, if_pos (by omega), e]
  · rw [if_neg c, if_neg (by omega), e, List.drop_append_of_le_length (by rw [AZ]; omega), List.append_assoc]
theorem outI_home {rs m : List Rp} {H : Nat} : outI rs m H H ++ m = outI rs m H (H + 1) := by
  unfold outI
  rw [if_pos (Nat.le_refl _), if_neg (by omega), List.drop_of_length_le (by rw [AZ]; omega), List.append_nil]
theorem outI_end {rs m : List Rp} {H i : Nat} (hH : H < rs.length) (hi : rs.length ≤ i) : outI rs m H i = rs.take H ++ m ++ rs.drop (H + 1) := by
  unfold outI
  rw [if_neg (by omega), List.take_of_length_le hi]
theorem outI_len {rs m : List Rp} {H i : Nat} : (outI rs m H i).length ≤ i + m.length := by
  unfold outI; split <;> simp <;> omega
def AfterR (w : Nat) (base h2 : H) (L : List Seg) (LL : List (List It)) : Prop := ∃ P n c rs J, (∀ h : H, (∀ p ∈ J, h.get p.1 = some p.2) → KRp.Sl h (.slice P n c) rs ∧ ∀ r ∈ rs, KIt.Sl h r.val r.l) ∧ lstR rs = LL ∧ Mem base h2 ([(w, ⟨[.slice P n c], 0, false⟩)] :: J :: L) []
theorem putR_end {rs m : List Rp} {y : Rp} {it : It} (hI : Inv (lstR rs)) (hne : rs ≠ []) (hy : rs[home it.ky (lstR rs)]? = some y) (hm : lstR m = if (putF y.l it).length ≤ 8 then [putF y.l it] else [(putF y.l it).take 5, (putF y.l it).drop 5]) : lstR (rs.take (home it.ky (lstR rs)) ++ m ++ rs.drop (home it.ky (lstR rs) + 1)) = putL (lstR rs) it := by
  have hl := (List.getElem?_eq_some_iff.1 hy).1
  have hg : (lstR rs).getD (home it.ky (lstR rs)) [] = y.l := by rw [List.getD_eq_getElem?_getD, lstR_get hy]; rfl
  unfold putL
  rw [if_neg (by unfold lstR; simpa using hne), hg]
  have e : lstR (rs.take (home it.ky (lstR rs)) ++ m ++ rs.drop (home it.ky (lstR rs) + 1)) = (lstR rs).take (home it.ky (lstR rs)) ++ lstR m ++ (lstR rs).drop (home it.ky (lstR rs) + 1) := by
    generalize home it.ky (lstR rs) = H
    unfold lstR; simp only [List.map_append, List.map_take, List.map_drop]
  rw [e, hm]
  split
  · rw [List.set_eq_take_append_cons_drop, if_pos (by simp only [lstR, List.length_map] at hl ⊢; exact hl)]; simp
  · simp
theorem op_sl5 {e : Env} {x : Operand} {p n m es : Nat} (hx : ev e x = some (.slice (some ⟨p, 0, none⟩) n (2 * m))) (h1 : 5 ≤ m) : opE (.slV es x none (some (.const (.int .i64 5))) (some (.const (.int .i64 5)))) e h none = some (.slice (some ⟨p, 0, none⟩) 5 11, h) := by
  have hnn : bnd e none = some none := rfl
  have h5 : bnd e (some (.const (.int .i64 5))) = some (some 5) := rfl
  simp only [opE, hx, hnn, h5, Option.getD_some, Option.getD_none]
  rw [if_pos ⟨by omega, by omega, by omega, by simp⟩, if_pos (.inr rfl)]
  simp
theorem AfterR.mk' {w : Nat} {P : Option Addr} {n c : Nat} {rs0 out : List Rp} {J S T : Seg} {LL : List (List It)} (hO : KRp.Own (.slice P n c) out S) (hJ2 : ∀ r ∈ rs0, ∀ h : H, (∀ p ∈ J, h.get p.1 = some p.2) → KIt.Sl h r.val r.l) (hT : ∀ r ∈ out, r ∈ rs0 ∨ ∀ h : H, (∀ p ∈ T, h.get p.1 = some p.2) → KIt.Sl h r.val r.l) (hl : lstR out = LL) (M : Mem base h2 ([(w, ⟨[.slice P n c], 0, false⟩)] :: S :: T :: J :: L) []) : AfterR w base h2 L LL := by
  refine ⟨P, n, c, out, S ++ (T ++ J), fun h hh => ⟨hO.sl fun p hp => hh p (List.mem_append_left _ hp), fun r hr => ?_⟩, hl, M.perm (by simp)⟩
  rcases hT r hr with q | q
  · exact hJ2 r q h fun p hp => hh p (List.mem_append_right _ (List.mem_append_right _ hp))
  · exact q h fun p hp => hh p (List.mem_append_right _ (List.mem_append_left _ hp))
theorem AfterR.lit {w bo bi : Nat} {it : It} {J : Seg} (M : Mem base h2 ([(w, ⟨[.slice (some ⟨bo, 0, none⟩) 1 3], 0, false⟩)] :: [(bo, ⟨[.slice (some ⟨bi, 0, none⟩) 1 3], 1, false⟩)] :: [(bi, ⟨KIt.cells it, 4, false⟩)] :: J :: L) []) : AfterR w base h2 L (putL (lstR []) it) := by
  refine ⟨some ⟨bo, 0, none⟩, 1, 3, [⟨some ⟨bi, 0, none⟩, 3, [it]⟩], [(bo, ⟨[.slice (some ⟨bi, 0, none⟩) 1 3], 1, false⟩)] ++ ([(bi, ⟨KIt.cells it, 4, false⟩)] ++ J), fun h hh => ⟨?_, fun r hr => ?_⟩, rfl, M.perm (by simp)⟩
  · exact sl_all (K := KRp) (l := [⟨some ⟨bi, 0, none⟩, 3, [it]⟩]) (hh (bo, ⟨[.slice (some ⟨bi, 0, none⟩) 1 3], 1, false⟩) (by simp))
  · rw [List.mem_singleton] at hr; subst hr
    exact sl_all (K := KIt) (l := [it]) (by rw [KIt.flat_one]; exact hh (bi, ⟨KIt.cells it, 4, false⟩) (by simp))
set_option maxRecDepth 8000 in
set_option maxHeartbeats 2000000 in
theorem rput_ran {w nl : Nat} {Pl : Option Addr} {rs : List Rp} {J : Seg} {key : List UInt8} {v : Vl} (M : Mem base h ([(w, ⟨[.slice Pl rs.length nl], 0, false⟩)] :: J :: L) []) (hJ1 : ∀ h : H, (∀ p ∈ J, h.get p.1 = some p.2) → KRp.Sl h (.slice Pl rs.length nl) rs) (hJ2 : ∀ r ∈ rs, ∀ h : H, (∀ p ∈ J, h.get p.1 = some p.2) → KIt.Sl h r.val r.l) (hI : Inv (lstR rs)) (hlen : rs.length ≤ 1000000) (hn : (lstR rs).flatten.length ≤ 900000) :
    Cll tab0 18 [.pointer (some ⟨w, 0, none⟩), .string (bs key), .agg (Vl.cells v).toArray] h (fun u h2 => u = .tuple #[.agg (Vl.cells (getV (lstR rs).flatten key).1).toArray, .bool (getV (lstR rs).flatten key).2] ∧ AfterR w base h2 L (putL (lstR rs) ⟨key, v.val, v.ver, v.lea⟩)) := by
  refine Cll.code rfl rfl ?_
  refine WC.env [(0, _), (1, _), (2, _)] rfl ?_
  refine AX (AQ (WS.box M [_, _, _] rfl rfl rfl rfl ?_))
  intro p1 h2 M3
  refine WS.new M3 rfl ?_
  intro p4 h5 M6
  refine D rfl rfl (X [(0, _), (1, _), (5, _), (6, _)] rfl ?_)
  refine AX (AQ (D rfl rfl (D rfl rfl ?_)))
  refine WS.call rfl rfl rfl (rGet_ran M6.bare.here (key := key) (rs := rs) (w := w) ⟨⟨_, (M6.at 2 rfl), hJ1 _ (Mem.owni M6 3 rfl)⟩, fun r hr => hJ2 r hr _ (Mem.owni M6 3 rfl)⟩ hlen hn) ?_
  rintro _ h7 ⟨rfl, N8⟩
  have M9 := M6.trans N8
  refine D rfl rfl (D rfl rfl (D rfl rfl ?_))
  refine WS.new M9 rfl ?_
  intro p10 h11 M12
  refine WS.st1 (M12.focus 0 rfl) [_, _, _] [_, _, _] rfl rfl rfl rfl rfl (F rfl) (F rfl) rfl rfl ?_
  intro h13 M14
  replace M14 : Mem _ _ ([(p10, _)] :: [(p4, _)] :: [(p1, _)] :: [(w, _)] :: J :: L) _ := M14
  refine D rfl rfl (X [(0, _), (1, _), (5, _), (6, _), (8, _), (9, _)] rfl ?_)
  refine AX (AX (AQ (D rfl rfl (D rfl rfl (D rfl rfl (D rfl (op_ld (M14.at 3 rfl) rfl rfl) (D rfl (op_lenVS (hJ1 _ (Mem.owni M14 4 rfl)) rfl) ?_)))))))
  refine WS.eqlN (a := (rs).length) (b := 0) rfl rfl rfl (fun e28 => ?_) (fun e28 => ?_)
  ·
   refine X [(0, _), (1, _), (5, _), (6, _), (8, _), (9, _), (28, _)] rfl ?_
   refine WC.condT rfl (AX (AQ (D rfl rfl (D rfl rfl (D rfl (op_lds [_, _, _] (M14.at 2 rfl) rfl (F rfl) rfl) (WS.opV (.agg #[(.string (bs key)), (.string (bs v.val)), (.int .u64 (((v.ver).toNat : Nat) : Int)), (.int .u64 (((v.lea).toNat : Nat) : Int))]) rfl rfl rfl ?_))))))
   refine WS.bsl M14 [_, _, _, _] rfl rfl rfl rfl ?_
   intro p15 h16 M17
   refine WS.bsl M17 [_] rfl rfl rfl rfl ?_
   intro p18 h19 M20
   refine D rfl rfl (D rfl rfl ?_)
   refine WS.st1 (M20.focus 5 rfl) [_] [_] rfl rfl rfl rfl rfl (F rfl) (F rfl) rfl rfl ?_
   intro h21 M22
   replace M22 : Mem _ _ ([(w, _)] :: [(p18, _)] :: [(p15, _)] :: [(p10, _)] :: [(p4, _)] :: [(p1, _)] :: J :: L) _ := M22
   refine X [(6, _), (8, _), (9, _)] rfl ?_
   refine AX (AQ (D rfl (op_lds [_, _, _] (M22.at 3 rfl) rfl (F rfl) rfl) (D rfl rfl ?_)))
   refine WS.st1 (M22.focus 4 rfl) [_, _, _] [_, _, _] rfl rfl rfl rfl rfl (F rfl) (F rfl) rfl rfl ?_
   intro h23 M24
   replace M24 : Mem _ _ ([(p4, _)] :: [(w, _)] :: [(p18, _)] :: [(p15, _)] :: [(p10, _)] :: [(p1, _)] :: J :: L) _ := M24
   refine D rfl rfl (X [(6, _), (7, _)] rfl ?_)
   refine WC.ret (⟨[_, _], (res_cellN [_, _, _] rfl (M24.at 0 rfl) (F rfl) rfl (res_tmp rfl res_nil)), ?_⟩)
   have hr0 : rs = [] := List.eq_nil_of_length_eq_zero e28
   subst hr0
   exact ⟨rfl, AfterR.lit (bo := p18) (bi := p15) (it := (⟨key, v.val, v.ver, v.lea⟩ : It)) (((((M24.focus 0 rfl).drop).focus 3 rfl).drop).focus 3 rfl).drop⟩
  ·
   refine X [(0, _), (1, _), (5, _), (6, _), (8, _), (9, _), (28, _)] rfl ?_
   refine WC.condF rfl (WC.skip (AX (AQ (D rfl rfl (D rfl rfl ?_)))))
   refine WS.call rfl rfl rfl (rHome_ran M14.bare.here (key := key) (rs := rs) (w := w) ⟨⟨_, (M14.at 3 rfl), hJ1 _ (Mem.owni M14 4 rfl)⟩, fun r hr => hJ2 r hr _ (Mem.owni M14 4 rfl)⟩ hI hlen) ?_
   rintro _ h25 ⟨rfl, N26⟩
   have M27 := M14.trans N26
   obtain ⟨yp, hyp, hyA⟩ := home_there hI (List.length_pos_iff.1 (Nat.pos_of_ne_zero e28)) key
   have hym := memR (List.mem_of_getElem? hyp)
   have hys := inv_page hI hym
   have hyl := hI.1 _ hym
   refine D rfl rfl (X [(0, _), (1, _), (5, _), (6, _), (8, _), (9, _), (10, _)] rfl ?_)
   refine AX (AQ (D rfl rfl (X [(0, _), (1, _), (5, _), (6, _), (8, _), (9, _), (10, _), (11, _)] rfl ?_)))
   refine AX (AQ (D rfl rfl (X [(0, _), (1, _), (5, _), (6, _), (8, _), (9, _), (10, _), (11, _), (12, _)] rfl ?_)))
   refine AX (AX (AQ (D rfl rfl (X [(0, _), (1, _), (5, _), (6, _), (8, _), (9, _), (10, _), (11, _), (12, _), (13, _)] rfl ?_))))
   refine WC.block ?_
   obtain ⟨L28, eL30, M29⟩ := Mem.name1 ((M27.bare).nils)
   refine WC.loop (σ := Value × Seg × List It × Bool × Nat) (fun ((V_, S_, pg, dn, i)) => [(0, (.pointer (some ⟨w, 0, none⟩))), (1, (.string (bs key))), (5, (.pointer (some ⟨p1, 0, none⟩))), (6, (.pointer (some ⟨p4, 0, none⟩))), (8, (.pointer (some ⟨p10, 0, none⟩))), (9, (.bool ((getV (lstR rs).flatten key).2))), (10, (.int .i64 (((home key (lstR rs)) : Nat) : Int))), (11, V_), (12, (.bool dn)), (13, (.int .i64 ((i : Nat) : Int)))]) (fun ((V_, S_, pg, dn, i)) hh => Mem base hh (S_ :: L28) [] ∧ KIt.Own V_ pg S_ ∧ PgI yp.l (⟨key, v.val, v.ver, v.lea⟩ : It) i dn pg) (fun ((V_, S_, pg, dn, i)) => yp.l.length - i) (_, _, [], false, 0) rfl ⟨M29, ?_⟩ ?_
   · exact ⟨.nil, pgi_zero _ _⟩
   ·rintro ⟨V_, S_, pg, dn, i⟩ h31 ⟨M32, ⟨hO_, hP⟩⟩
    replace eL30 := eL30.symm; subst eL30
    refine WC.env [(0, _), (1, _), (5, _), (6, _), (8, _), (9, _), (10, _), (11, _), (12, _), (13, _)] rfl ?_
    refine AX (AX (AQ (D rfl rfl (D rfl rfl (D rfl rfl (D rfl rfl (D rfl (op_ld (M32.at 4 rfl) rfl rfl) (D rfl rfl ?_))))))))
    refine WS.iaVS (hJ1 _ (Mem.owni M32 5 rfl)) (home key (lstR rs)) hyp rfl rfl rfl rfl ?_
    intro b48_ o48_ ha48
    refine D rfl (op_ldH rfl (At.ld0 ha48 rfl)) (D rfl (op_lenVS ((hJ2 yp (List.mem_of_getElem? hyp)) _ (Mem.owni M32 5 rfl)) rfl) ?_)
    refine WS.lssN (a := i) (b := (yp.l).length) rfl rfl rfl (fun e51 => ?_) (fun e51 => ?_)
    ·
     refine X [(0, _), (1, _), (5, _), (6, _), (8, _), (9, _), (10, _), (11, _), (12, _), (13, _), (51, _)] rfl ?_
     refine WC.condT rfl (WC.skip (AX (WC.block (AX (AQ (D rfl rfl (D rfl rfl (D rfl rfl (D rfl (op_ld (M32.at 4 rfl) rfl rfl) (D rfl rfl ?_))))))))))
     refine WS.iaVS (hJ1 _ (Mem.owni M32 5 rfl)) (home key (lstR rs)) hyp rfl rfl rfl rfl ?_
     intro b59_ o59_ ha59
     refine D rfl (op_ldH rfl (At.ld0 ha59 rfl)) (D rfl rfl ?_)
     obtain ⟨y62, hy62⟩ : ∃ y, (yp.l)[i]? = some y := ⟨_, List.getElem?_eq_getElem (show i < (yp.l).length by first | omega | (simp only [List.length_drop, AZ, Y, G, U, List.length_singleton]; omega) | (simp only [List.length_drop, AZ, Y, G, U, List.length_singleton] at *; omega))⟩
     refine WS.iaVS ((hJ2 yp (List.mem_of_getElem? hyp)) _ (Mem.owni M32 5 rfl)) i hy62 rfl rfl rfl rfl ?_
     intro b62_ o62_ ha62
     refine D rfl (op_ldAt rfl ha62 rfl) ?_
     refine WS.new M32 rfl ?_
     intro p33 h34 M35
     refine WS.st1 (M35.focus 0 rfl) [_, _, _, _] [_, _, _, _] rfl rfl rfl rfl rfl (F rfl) (F rfl) rfl rfl ?_
     intro h36 M37
     replace M37 : Mem _ _ ([(p33, _)] :: S_ :: [(p10, _)] :: [(p4, _)] :: [(p1, _)] :: [(w, _)] :: J :: L) _ := M37
     refine X [(0, _), (1, _), (5, _), (6, _), (8, _), (9, _), (10, _), (11, _), (12, _), (13, _), (14, _)] rfl ?_
     refine AX (AX (AQ (D rfl rfl ?_)))
     cases dn
     ·
      refine WS.opV (.bool true) rfl rfl rfl (D rfl rfl (D rfl rfl (D rfl (op_ld (M37.at 0 rfl) rfl rfl) (D rfl rfl ?_))))
      refine WS.sgeq (l := y62.ky) (m := key) rfl rfl rfl (fun e70 => ?_) (fun e70 => ?_)
      ·
       refine D rfl rfl (X [(0, _), (1, _), (5, _), (6, _), (8, _), (9, _), (10, _), (11, _), (12, _), (13, _), (14, _), (71, _)] rfl ?_)
       refine WC.condT rfl (AX (AQ (D rfl rfl (D rfl rfl (D rfl (op_lds [_, _, _] (M37.at 4 rfl) rfl (F rfl) rfl) (WS.opV (.agg #[(.string (bs key)), (.string (bs v.val)), (.int .u64 (((v.ver).toNat : Nat) : Int)), (.int .u64 (((v.lea).toNat : Nat) : Int))]) rfl rfl rfl ?_))))))
       refine WS.bsl M37 [_, _, _, _] rfl rfl rfl rfl ?_
       intro p38 h39 M40
       refine WS.app (l := pg) (m := [(⟨key, v.val, v.ver, v.lea⟩ : It)]) (hO_) (M40.focus 2 rfl) (Row.Src.one (K := KIt) (m := [(⟨key, v.val, v.ver, v.lea⟩ : It)]) (M40.at 0 rfl)) rfl (by have := hP.2; have := pgi_len hP; simp only [Y, G, U]; omega) (by have := hP.2; have := pgi_len hP; simp only [Y, G, U]; omega) rfl rfl rfl ?_
       intro V41 S42 h43 O44 M45
       obtain ⟨P46, rfl⟩ := Row.Own.shape O44
       refine D rfl rfl (X [(0, _), (1, _), (5, _), (6, _), (8, _), (9, _), (10, _), (11, _), (13, _), (14, _)] rfl ?_)
       refine AQ (D rfl rfl (X [(0, _), (1, _), (5, _), (6, _), (8, _), (9, _), (10, _), (11, _), (12, _), (13, _), (14, _)] rfl ?_))
       refine AX (AQ (D rfl rfl (D rfl (op_ld (M45.at 2 rfl) rfl rfl) (D rfl rfl ?_))))
       refine WS.sneq (l := y62.ky) (m := key) rfl rfl rfl (fun e81 => ?_) (fun e81 => ?_)
       ·
        refine X [(0, _), (1, _), (5, _), (6, _), (8, _), (9, _), (10, _), (11, _), (12, _), (13, _), (14, _), (81, _)] rfl ?_
        refine WC.condT rfl (AQ (D rfl rfl (D rfl (op_lds [_, _, _, _] (M45.at 2 rfl) rfl (F rfl) rfl) ?_)))
        refine WS.bsl M45 [_, _, _, _] rfl rfl rfl rfl ?_
        intro p47 h48 M49
        refine WS.app (l := (pg ++ [(⟨key, v.val, v.ver, v.lea⟩ : It)])) (m := [y62]) (O44) (M49.focus 1 rfl) (Row.Src.one (K := KIt) (m := [y62]) (M49.at 0 rfl)) rfl (by have := pgi_len hP; simp only [Y, G, U]; omega) (by have := pgi_len hP; simp only [Y, G, U]; omega) rfl rfl rfl ?_
        intro V50 S51 h52 O53 M54
        obtain ⟨P55, rfl⟩ := Row.Own.shape O53
        refine D rfl rfl (X [(0, _), (1, _), (5, _), (6, _), (8, _), (9, _), (10, _), (11, _), (12, _), (13, _)] rfl ?_)
        refine AQ (D rfl rfl (WS.opV (.int .i64 (((i + 1) : Nat) : Int)) rfl rfl (add_i64 (a := i) (b := 1) (by omega)) (D rfl rfl (X [(0, _), (1, _), (5, _), (6, _), (8, _), (9, _), (10, _), (11, _), (12, _), (13, _)] rfl ?_))))
        refine ⟨((.slice P55 (((pg ++ [(⟨key, v.val, v.ver, v.lea⟩ : It)]) ++ [y62])).length (2 * (((pg ++ [(⟨key, v.val, v.ver, v.lea⟩ : It)]) ++ [y62])).length)), S51, ((pg ++ [(⟨key, v.val, v.ver, v.lea⟩ : It)]) ++ [y62]), true, i + 1), rfl, ⟨(((((M54.focus 1 rfl).drop).focus 1 rfl).drop).focus 1 rfl).drop, ?_⟩, ?_⟩
        · first | exact ⟨O53, pgi_new hP hy62 (by assumption) (by assumption)⟩ | exact ⟨O53, pgi_eq hP hy62 (by assumption) (by assumption)⟩ | exact ⟨O53, pgi_low hP hy62 (by assumption)⟩ | exact ⟨O53, pgi_hi hys hP hy62⟩ | (exfalso; have q := pgi_gt hys hP hy62; (rw [show y62.ky = key by assumption] at q; exact kL_irr q)) | (exfalso; have q : kL y62.ky key := (by assumption); rw [show y62.ky = key by assumption] at q; exact kL_irr q)
        · simp only []; omega
       ·
        refine X [(0, _), (1, _), (5, _), (6, _), (8, _), (9, _), (10, _), (11, _), (12, _), (13, _), (14, _), (81, _)] rfl ?_
        refine WC.condF rfl (WC.skip (AQ (D rfl rfl (WS.opV (.int .i64 (((i + 1) : Nat) : Int)) rfl rfl (add_i64 (a := i) (b := 1) (by omega)) (D rfl rfl (X [(0, _), (1, _), (5, _), (6, _), (8, _), (9, _), (10, _), (11, _), (12, _), (13, _)] rfl ?_))))))
        refine ⟨((.slice P46 ((pg ++ [(⟨key, v.val, v.ver, v.lea⟩ : It)])).length (2 * ((pg ++ [(⟨key, v.val, v.ver, v.lea⟩ : It)])).length)), S42, (pg ++ [(⟨key, v.val, v.ver, v.lea⟩ : It)]), true, i + 1), rfl, ⟨(((M45.focus 1 rfl).drop).focus 1 rfl).drop, ?_⟩, ?_⟩
        · first | exact ⟨O44, pgi_new hP hy62 (by assumption) (by assumption)⟩ | exact ⟨O44, pgi_eq hP hy62 (by assumption) (by assumption)⟩ | exact ⟨O44, pgi_low hP hy62 (by assumption)⟩ | exact ⟨O44, pgi_hi hys hP hy62⟩ | (exfalso; have q := pgi_gt hys hP hy62; (rw [show y62.ky = key by assumption] at q; exact kL_irr q)) | (exfalso; have q : kL y62.ky key := (by assumption); rw [show y62.ky = key by assumption] at q; exact kL_irr q)
        · simp only []; omega
      ·
       refine D rfl rfl (X [(0, _), (1, _), (5, _), (6, _), (8, _), (9, _), (10, _), (11, _), (12, _), (13, _), (14, _), (71, _)] rfl ?_)
       refine WC.condF rfl (WC.skip (AX (AQ (D rfl rfl (D rfl (op_ld (M37.at 0 rfl) rfl rfl) (D rfl rfl ?_))))))
       refine WS.sneq (l := y62.ky) (m := key) rfl rfl rfl (fun e81 => ?_) (fun e81 => ?_)
       ·
        refine X [(0, _), (1, _), (5, _), (6, _), (8, _), (9, _), (10, _), (11, _), (12, _), (13, _), (14, _), (81, _)] rfl ?_
        refine WC.condT rfl (AQ (D rfl rfl (D rfl (op_lds [_, _, _, _] (M37.at 0 rfl) rfl (F rfl) rfl) ?_)))
        refine WS.bsl M37 [_, _, _, _] rfl rfl rfl rfl ?_
        intro p56 h57 M58
        refine WS.app (l := pg) (m := [y62]) (hO_) (M58.focus 2 rfl) (Row.Src.one (K := KIt) (m := [y62]) (M58.at 0 rfl)) rfl (by have := pgi_len hP; simp only [Y, G, U]; omega) (by have := pgi_len hP; simp only [Y, G, U]; omega) rfl rfl rfl ?_
        intro V59 S60 h61 O62 M63
        obtain ⟨P64, rfl⟩ := Row.Own.shape O62
        refine D rfl rfl (X [(0, _), (1, _), (5, _), (6, _), (8, _), (9, _), (10, _), (11, _), (12, _), (13, _)] rfl ?_)
        refine AQ (D rfl rfl (WS.opV (.int .i64 (((i + 1) : Nat) : Int)) rfl rfl (add_i64 (a := i) (b := 1) (by omega)) (D rfl rfl (X [(0, _), (1, _), (5, _), (6, _), (8, _), (9, _), (10, _), (11, _), (12, _), (13, _)] rfl ?_))))
        refine ⟨((.slice P64 ((pg ++ [y62])).length (2 * ((pg ++ [y62])).length)), S60, (pg ++ [y62]), false, i + 1), rfl, ⟨(((M63.focus 1 rfl).drop).focus 1 rfl).drop, ?_⟩, ?_⟩
        · first | exact ⟨O62, pgi_new hP hy62 (by assumption) (by assumption)⟩ | exact ⟨O62, pgi_eq hP hy62 (by assumption) (by assumption)⟩ | exact ⟨O62, pgi_low hP hy62 (by assumption)⟩ | exact ⟨O62, pgi_hi hys hP hy62⟩ | (exfalso; have q := pgi_gt hys hP hy62; (rw [show y62.ky = key by assumption] at q; exact kL_irr q)) | (exfalso; have q : kL y62.ky key := (by assumption); rw [show y62.ky = key by assumption] at q; exact kL_irr q)
        · simp only []; omega
       ·
        refine X [(0, _), (1, _), (5, _), (6, _), (8, _), (9, _), (10, _), (11, _), (12, _), (13, _), (14, _), (81, _)] rfl ?_
        refine WC.condF rfl (WC.skip (AQ (D rfl rfl (WS.opV (.int .i64 (((i + 1) : Nat) : Int)) rfl rfl (add_i64 (a := i) (b := 1) (by omega)) (D rfl rfl (X [(0, _), (1, _), (5, _), (6, _), (8, _), (9, _), (10, _), (11, _), (12, _), (13, _)] rfl ?_))))))
        refine ⟨(V_, S_, pg, false, i + 1), rfl, ⟨(M37.focus 0 rfl).drop, ?_⟩, ?_⟩
        · first | exact ⟨hO_, pgi_new hP hy62 (by assumption) (by assumption)⟩ | exact ⟨hO_, pgi_eq hP hy62 (by assumption) (by assumption)⟩ | exact ⟨hO_, pgi_low hP hy62 (by assumption)⟩ | exact ⟨hO_, pgi_hi hys hP hy62⟩ | (exfalso; have q := pgi_gt hys hP hy62; (rw [show y62.ky = key by assumption] at q; exact kL_irr q)) | (exfalso; have q : kL y62.ky key := (by assumption); rw [show y62.ky = key by assumption] at q; exact kL_irr q)
        · simp only []; omega
     ·
      refine WS.opV (.bool false) rfl rfl rfl (D rfl rfl (WS.off rfl (WS.off rfl (WS.off rfl (WS.off rfl (D rfl rfl (X [(0, _), (1, _), (5, _), (6, _), (8, _), (9, _), (10, _), (11, _), (12, _), (13, _), (14, _), (71, _)] rfl ?_)))))))
      refine WC.condF rfl (WC.skip (AX (AQ (D rfl rfl (D rfl (op_ld (M37.at 0 rfl) rfl rfl) (D rfl rfl ?_))))))
      refine WS.sneq (l := y62.ky) (m := key) rfl rfl rfl (fun e81 => ?_) (fun e81 => ?_)
      ·
       refine X [(0, _), (1, _), (5, _), (6, _), (8, _), (9, _), (10, _), (11, _), (12, _), (13, _), (14, _), (81, _)] rfl ?_
       refine WC.condT rfl (AQ (D rfl rfl (D rfl (op_lds [_, _, _, _] (M37.at 0 rfl) rfl (F rfl) rfl) ?_)))
       refine WS.bsl M37 [_, _, _, _] rfl rfl rfl rfl ?_
       intro p65 h66 M67
       refine WS.app (l := pg) (m := [y62]) (hO_) (M67.focus 2 rfl) (Row.Src.one (K := KIt) (m := [y62]) (M67.at 0 rfl)) rfl (by have := pgi_len hP; simp only [Y, G, U]; omega) (by have := pgi_len hP; simp only [Y, G, U]; omega) rfl rfl rfl ?_
       intro V68 S69 h70 O71 M72
       obtain ⟨P73, rfl⟩ := Row.Own.shape O71
       refine D rfl rfl (X [(0, _), (1, _), (5, _), (6, _), (8, _), (9, _), (10, _), (11, _), (12, _), (13, _)] rfl ?_)
       refine AQ (D rfl rfl (WS.opV (.int .i64 (((i + 1) : Nat) : Int)) rfl rfl (add_i64 (a := i) (b := 1) (by omega)) (D rfl rfl (X [(0, _), (1, _), (5, _), (6, _), (8, _), (9, _), (10, _), (11, _), (12, _), (13, _)] rfl ?_))))
       refine ⟨((.slice P73 ((pg ++ [y62])).length (2 * ((pg ++ [y62])).length)), S69, (pg ++ [y62]), true, i + 1), rfl, ⟨(((M72.focus 1 rfl).drop).focus 1 rfl).drop, ?_⟩, ?_⟩
       · first | exact ⟨O71, pgi_new hP hy62 (by assumption) (by assumption)⟩ | exact ⟨O71, pgi_eq hP hy62 (by assumption) (by assumption)⟩ | exact ⟨O71, pgi_low hP hy62 (by assumption)⟩ | exact ⟨O71, pgi_hi hys hP hy62⟩ | (exfalso; have q := pgi_gt hys hP hy62; (rw [show y62.ky = key by assumption] at q; exact kL_irr q)) | (exfalso; have q : kL y62.ky key := (by assumption); rw [show y62.ky = key by assumption] at q; exact kL_irr q)
       · simp only []; omega
      ·
       refine X [(0, _), (1, _), (5, _), (6, _), (8, _), (9, _), (10, _), (11, _), (12, _), (13, _), (14, _), (81, _)] rfl ?_
       refine WC.condF rfl (WC.skip (AQ (D rfl rfl (WS.opV (.int .i64 (((i + 1) : Nat) : Int)) rfl rfl (add_i64 (a := i) (b := 1) (by omega)) (D rfl rfl (X [(0, _), (1, _), (5, _), (6, _), (8, _), (9, _), (10, _), (11, _), (12, _), (13, _)] rfl ?_))))))
       refine ⟨(V_, S_, pg, true, i + 1), rfl, ⟨(M37.focus 0 rfl).drop, ?_⟩, ?_⟩
       · first | exact ⟨hO_, pgi_new hP hy62 (by assumption) (by assumption)⟩ | exact ⟨hO_, pgi_eq hP hy62 (by assumption) (by assumption)⟩ | exact ⟨hO_, pgi_low hP hy62 (by assumption)⟩ | exact ⟨hO_, pgi_hi hys hP hy62⟩ | (exfalso; have q := pgi_gt hys hP hy62; (rw [show y62.ky = key by assumption] at q; exact kL_irr q)) | (exfalso; have q : kL y62.ky key := (by assumption); rw [show y62.ky = key by assumption] at q; exact kL_irr q)
       · simp only []; omega
    ·
     refine X [(0, _), (1, _), (5, _), (6, _), (8, _), (9, _), (10, _), (11, _), (12, _), (13, _), (51, _)] rfl ?_
     refine WC.condF rfl (WC.exit ?_)
     refine AX (AX (AQ (D rfl rfl ?_)))
     cases dn
     ·
      refine WS.opV (.bool true) rfl rfl rfl (X [(0, _), (1, _), (5, _), (6, _), (8, _), (9, _), (10, _), (11, _), (87, _)] rfl ?_)
      refine WC.condT rfl (AQ (D rfl rfl (D rfl rfl (D rfl (op_lds [_, _, _] (M32.at 3 rfl) rfl (F rfl) rfl) (WS.opV (.agg #[(.string (bs key)), (.string (bs v.val)), (.int .u64 (((v.ver).toNat : Nat) : Int)), (.int .u64 (((v.lea).toNat : Nat) : Int))]) rfl rfl rfl ?_)))))
      refine WS.bsl M32 [_, _, _, _] rfl rfl rfl rfl ?_
      intro p74 h75 M76
      refine WS.app (l := pg) (m := [(⟨key, v.val, v.ver, v.lea⟩ : It)]) (hO_) (M76.focus 1 rfl) (Row.Src.one (K := KIt) (m := [(⟨key, v.val, v.ver, v.lea⟩ : It)]) (M76.at 0 rfl)) rfl (by have := pgi_len hP; simp only [Y, G, U]; omega) (by have := pgi_len hP; simp only [Y, G, U]; omega) rfl rfl rfl ?_
      intro V77 S78 h79 O80 M81
      obtain ⟨P82, rfl⟩ := Row.Own.shape O80
      refine D rfl rfl (X [(0, _), (6, _), (8, _), (9, _), (10, _), (11, _)] rfl ?_)
      refine AX (AQ (D rfl rfl (X [(0, _), (6, _), (8, _), (9, _), (10, _), (11, _), (15, _)] rfl ?_)))
      refine AX (AX (AQ (D rfl rfl (X [(0, _), (6, _), (8, _), (9, _), (10, _), (11, _), (15, _), (16, _)] rfl ?_))))
      refine WC.block ?_
      have hpf : (pg ++ [(⟨key, v.val, v.ver, v.lea⟩ : It)]) = putF yp.l (⟨key, v.val, v.ver, v.lea⟩ : It) := by first | (have q := (hP.2.2 rfl).1; rw [List.take_of_length_le (by omega)] at q; exact q) | (have q := hP.2.1 rfl; have q2 := q.1; have q3 := q.2; rw [List.take_of_length_le (by omega)] at q2 q3; rw [q3]; exact (put_low q2).symm)
      have hpl := putF_len (it := (⟨key, v.val, v.ver, v.lea⟩ : It)) hys
      rw [← hpf] at hpl
      obtain ⟨pp, rfl, rfl⟩ := own_row O80 (by intro e; rw [e] at hpl; simp at hpl)
      obtain ⟨mm, hmm⟩ : ∃ mm : List Rp, mm = if ((pg ++ [(⟨key, v.val, v.ver, v.lea⟩ : It)])).length < 9 then [(⟨some ⟨pp, 0, none⟩, 2 * (pg ++ [(⟨key, v.val, v.ver, v.lea⟩ : It)]).length, (pg ++ [(⟨key, v.val, v.ver, v.lea⟩ : It)])⟩ : Rp)] else [(⟨some ⟨pp, 0, none⟩, 11, (pg ++ [(⟨key, v.val, v.ver, v.lea⟩ : It)]).take 5⟩ : Rp), (⟨some ⟨pp, 0 + 5 * 4, none⟩, 2 * ((pg ++ [(⟨key, v.val, v.ver, v.lea⟩ : It)]).length - 5), (pg ++ [(⟨key, v.val, v.ver, v.lea⟩ : It)]).drop 5⟩ : Rp)] := ⟨_, rfl⟩
      have hml : mm.length ≤ 2 := by rw [hmm]; split <;> simp
      have hHl := (List.getElem?_eq_some_iff.1 hyp).1
      obtain ⟨L83, eL85, M84⟩ := Mem.name1 ((M81.bare).nils)
      refine WC.loop (σ := Value × Seg × List Rp × Nat) (fun ((V2, S2, out2, i2)) => [(0, (.pointer (some ⟨w, 0, none⟩))), (6, (.pointer (some ⟨p4, 0, none⟩))), (8, (.pointer (some ⟨p10, 0, none⟩))), (9, (.bool ((getV (lstR rs).flatten key).2))), (10, (.int .i64 (((home key (lstR rs)) : Nat) : Int))), (11, (.slice (some ⟨pp, 0, none⟩) (pg ++ [(⟨key, v.val, v.ver, v.lea⟩ : It)]).length (2 * (pg ++ [(⟨key, v.val, v.ver, v.lea⟩ : It)]).length))), (15, V2), (16, (.int .i64 ((i2 : Nat) : Int)))]) (fun ((V2, S2, out2, i2)) hh => Mem base hh (S2 :: L83) [] ∧ KRp.Own V2 out2 S2 ∧ out2 = outI rs mm (home key (lstR rs)) i2 ∧ i2 ≤ rs.length) (fun ((V2, S2, out2, i2)) => rs.length - i2) (_, _, [], 0) rfl ⟨M84, ?_⟩ ?_
      · exact ⟨.nil, (outI_zero _ _ _).symm, by omega⟩
      ·rintro ⟨V2, S2, out2, i2⟩ h86 ⟨M87, ⟨hO2, hE, hi2⟩⟩
       replace eL85 := eL85.symm; subst eL85
       refine WC.env [(0, _), (6, _), (8, _), (9, _), (10, _), (11, _), (15, _), (16, _)] rfl ?_
       refine AX (AX (AQ (D rfl rfl (D rfl rfl (D rfl rfl (D rfl rfl (D rfl (op_ld (M87.at 6 rfl) rfl rfl) (D rfl (op_lenVS (hJ1 _ (Mem.owni M87 7 rfl)) rfl) ?_))))))))
       refine WS.lssN (a := i2) (b := (rs).length) rfl rfl rfl (fun e100 => ?_) (fun e100 => ?_)
       ·
        refine X [(0, _), (6, _), (8, _), (9, _), (10, _), (11, _), (15, _), (16, _), (100, _)] rfl ?_
        refine WC.condT rfl (WC.skip (AX (WC.block (AX (AQ (D rfl rfl (D rfl rfl ?_)))))))
        refine WS.neqN (a := i2) (b := (home key (lstR rs))) rfl rfl rfl (fun e105 => ?_) (fun e105 => ?_)
        ·
         refine X [(0, _), (6, _), (8, _), (9, _), (10, _), (11, _), (15, _), (16, _), (105, _)] rfl ?_
         refine WC.condT rfl (AQ (D rfl rfl (D rfl rfl (D rfl rfl (D rfl rfl (D rfl (op_ld (M87.at 6 rfl) rfl rfl) (D rfl rfl ?_)))))))
         obtain ⟨y112, hy112⟩ : ∃ y, (rs)[i2]? = some y := ⟨_, List.getElem?_eq_getElem (show i2 < (rs).length by first | omega | (simp only [List.length_drop, AZ, Y, G, U, List.length_singleton]; omega) | (simp only [List.length_drop, AZ, Y, G, U, List.length_singleton] at *; omega))⟩
         refine WS.iaVS (hJ1 _ (Mem.owni M87 7 rfl)) i2 hy112 rfl rfl rfl rfl ?_
         intro b112_ o112_ ha112
         refine D rfl (op_ldH rfl (At.ld0 ha112 rfl)) ?_
         refine WS.bsl M87 [_] rfl rfl rfl rfl ?_
         intro p88 h89 M90
         refine WS.app (l := out2) (m := [y112]) (hO2) (M90.focus 1 rfl) (Row.Src.one (K := KRp) (m := [y112]) (M90.at 0 rfl)) rfl (by have := congrArg List.length hE; have q := outI_len (rs := rs) (m := mm) (H := home key (lstR rs)) (i := i2); simp only [G, U]; omega) (by have := congrArg List.length hE; have q := outI_len (rs := rs) (m := mm) (H := home key (lstR rs)) (i := i2); simp only [G, U]; omega) rfl rfl rfl ?_
         intro V91 S92 h93 O94 M95
         obtain ⟨P96, rfl⟩ := Row.Own.shape O94
         refine D rfl rfl (X [(0, _), (6, _), (8, _), (9, _), (10, _), (11, _), (15, _), (16, _)] rfl ?_)
         refine AQ (D rfl rfl (WS.opV (.int .i64 (((i2 + 1) : Nat) : Int)) rfl rfl (add_i64 (a := i2) (b := 1) (by omega)) (D rfl rfl (X [(0, _), (6, _), (8, _), (9, _), (10, _), (11, _), (15, _), (16, _)] rfl ?_))))
         refine ⟨((.slice P96 ((out2 ++ [y112])).length (2 * ((out2 ++ [y112])).length)), S92, (out2 ++ [y112]), i2 + 1), rfl, ⟨(M95.focus 1 rfl).drop, ?_⟩, ?_⟩
         · exact ⟨O94, by first | (rw [hE]; exact outI_other hy112 e105) | (rw [hE, show i2 = home key (lstR rs) by omega, ← outI_home, hmm, if_pos e118]) | (rw [hE, show i2 = home key (lstR rs) by omega, ← outI_home, hmm, if_neg (by omega)]), by omega⟩
         · simp only []; omega
        ·
         refine X [(0, _), (6, _), (8, _), (9, _), (10, _), (11, _), (15, _), (16, _), (105, _)] rfl ?_
         refine WC.condF rfl (AX (AQ (D rfl rfl (D rfl rfl ?_))))
         refine WS.lssN (a := (pg ++ [(⟨key, v.val, v.ver, v.lea⟩ : It)]).length) (b := 9) rfl rfl rfl (fun e118 => ?_) (fun e118 => ?_)
         ·
          refine X [(0, _), (6, _), (8, _), (9, _), (10, _), (11, _), (15, _), (16, _), (118, _)] rfl ?_
          refine WC.condT rfl (AQ (D rfl rfl (D rfl rfl ?_)))
          refine WS.bsl M87 [_] rfl rfl rfl rfl ?_
          intro p97 h98 M99
          refine WS.app (l := out2) (m := [(⟨some ⟨pp, 0, none⟩, 2 * (pg ++ [(⟨key, v.val, v.ver, v.lea⟩ : It)]).length, (pg ++ [(⟨key, v.val, v.ver, v.lea⟩ : It)])⟩ : Rp)]) (hO2) (M99.focus 1 rfl) (Row.Src.one (K := KRp) (m := [(⟨some ⟨pp, 0, none⟩, 2 * (pg ++ [(⟨key, v.val, v.ver, v.lea⟩ : It)]).length, (pg ++ [(⟨key, v.val, v.ver, v.lea⟩ : It)])⟩ : Rp)]) (M99.at 0 rfl)) rfl (by have := congrArg List.length hE; have q := outI_len (rs := rs) (m := mm) (H := home key (lstR rs)) (i := i2); simp only [G, U]; omega) (by have := congrArg List.length hE; have q := outI_len (rs := rs) (m := mm) (H := home key (lstR rs)) (i := i2); simp only [G, U]; omega) rfl rfl rfl ?_
          intro V100 S101 h102 O103 M104
          obtain ⟨P105, rfl⟩ := Row.Own.shape O103
          refine D rfl rfl (X [(0, _), (6, _), (8, _), (9, _), (10, _), (11, _), (15, _), (16, _)] rfl ?_)
          refine AQ (D rfl rfl (WS.opV (.int .i64 (((i2 + 1) : Nat) : Int)) rfl rfl (add_i64 (a := i2) (b := 1) (by omega)) (D rfl rfl (X [(0, _), (6, _), (8, _), (9, _), (10, _), (11, _), (15, _), (16, _)] rfl ?_))))
          refine ⟨((.slice P105 ((out2 ++ [(⟨some ⟨pp, 0, none⟩, 2 * (pg ++ [(⟨key, v.val, v.ver, v.lea⟩ : It)]).length, (pg ++ [(⟨key, v.val, v.ver, v.lea⟩ : It)])⟩ : Rp)])).length (2 * ((out2 ++ [(⟨some ⟨pp, 0, none⟩, 2 * (pg ++ [(⟨key, v.val, v.ver, v.lea⟩ : It)]).length, (pg ++ [(⟨key, v.val, v.ver, v.lea⟩ : It)])⟩ : Rp)])).length)), S101, (out2 ++ [(⟨some ⟨pp, 0, none⟩, 2 * (pg ++ [(⟨key, v.val, v.ver, v.lea⟩ : It)]).length, (pg ++ [(⟨key, v.val, v.ver, v.lea⟩ : It)])⟩ : Rp)]), i2 + 1), rfl, ⟨(M104.focus 1 rfl).drop, ?_⟩, ?_⟩
          · exact ⟨O103, by first | (rw [hE]; exact outI_other hy112 e105) | (rw [hE, show i2 = home key (lstR rs) by omega, ← outI_home, hmm, if_pos e118]) | (rw [hE, show i2 = home key (lstR rs) by omega, ← outI_home, hmm, if_neg (by omega)]), by omega⟩
          · simp only []; omega
         ·
          refine X [(0, _), (6, _), (8, _), (9, _), (10, _), (11, _), (15, _), (16, _), (118, _)] rfl ?_
          refine WC.condF rfl (WC.draw M87 [5] rfl ?_)
          intro rb106 h107 M108
          refine D rfl rfl (D rfl rfl (WS.opV (.slice (some ⟨pp, 0, none⟩) ((pg ++ [(⟨key, v.val, v.ver, v.lea⟩ : It)]).take 5).length 11) rfl (op_sl5 rfl (by omega)) (by rw [AZ, Nat.min_eq_left (by omega)]) (D rfl rfl (WS.opV (.slice (some ⟨pp, 0 + 5 * 4, none⟩) ((pg ++ [(⟨key, v.val, v.ver, v.lea⟩ : It)]).drop 5).length (2 * ((pg ++ [(⟨key, v.val, v.ver, v.lea⟩ : It)]).length - 5))) rfl (op_slE0 (C := (pg ++ [(⟨key, v.val, v.ver, v.lea⟩ : It)]).length) 5 (M108.at 1 rfl) rfl rfl rfl (by omega) (by omega)) (by rw [List.length_drop]) ?_))))
          refine WS.bslA M108 [_, _] 0 rfl rfl rfl rfl rfl ?_
          intro h110 M111
          refine WS.app (l := out2) (m := [(⟨some ⟨pp, 0, none⟩, 11, (pg ++ [(⟨key, v.val, v.ver, v.lea⟩ : It)]).take 5⟩ : Rp), (⟨some ⟨pp, 0 + 5 * 4, none⟩, 2 * ((pg ++ [(⟨key, v.val, v.ver, v.lea⟩ : It)]).length - 5), (pg ++ [(⟨key, v.val, v.ver, v.lea⟩ : It)]).drop 5⟩ : Rp)]) (hO2) (M111.focus 1 rfl) (Row.Src.one (K := KRp) (m := [(⟨some ⟨pp, 0, none⟩, 11, (pg ++ [(⟨key, v.val, v.ver, v.lea⟩ : It)]).take 5⟩ : Rp), (⟨some ⟨pp, 0 + 5 * 4, none⟩, 2 * ((pg ++ [(⟨key, v.val, v.ver, v.lea⟩ : It)]).length - 5), (pg ++ [(⟨key, v.val, v.ver, v.lea⟩ : It)]).drop 5⟩ : Rp)]) (M111.at 0 rfl)) rfl (by have := congrArg List.length hE; have q := outI_len (rs := rs) (m := mm) (H := home key (lstR rs)) (i := i2); simp only [G, U]; omega) (by have := congrArg List.length hE; have q := outI_len (rs := rs) (m := mm) (H := home key (lstR rs)) (i := i2); simp only [G, U]; omega) rfl rfl rfl ?_
          intro V112 S113 h114 O115 M116
          obtain ⟨P117, rfl⟩ := Row.Own.shape O115
          refine D rfl rfl (X [(0, _), (6, _), (8, _), (9, _), (10, _), (11, _), (15, _), (16, _)] rfl ?_)
          refine AQ (D rfl rfl (WS.opV (.int .i64 (((i2 + 1) : Nat) : Int)) rfl rfl (add_i64 (a := i2) (b := 1) (by omega)) (D rfl rfl (X [(0, _), (6, _), (8, _), (9, _), (10, _), (11, _), (15, _), (16, _)] rfl ?_))))
          refine ⟨((.slice P117 ((out2 ++ [(⟨some ⟨pp, 0, none⟩, 11, (pg ++ [(⟨key, v.val, v.ver, v.lea⟩ : It)]).take 5⟩ : Rp), (⟨some ⟨pp, 0 + 5 * 4, none⟩, 2 * ((pg ++ [(⟨key, v.val, v.ver, v.lea⟩ : It)]).length - 5), (pg ++ [(⟨key, v.val, v.ver, v.lea⟩ : It)]).drop 5⟩ : Rp)])).length (2 * ((out2 ++ [(⟨some ⟨pp, 0, none⟩, 11, (pg ++ [(⟨key, v.val, v.ver, v.lea⟩ : It)]).take 5⟩ : Rp), (⟨some ⟨pp, 0 + 5 * 4, none⟩, 2 * ((pg ++ [(⟨key, v.val, v.ver, v.lea⟩ : It)]).length - 5), (pg ++ [(⟨key, v.val, v.ver, v.lea⟩ : It)]).drop 5⟩ : Rp)])).length)), S113, (out2 ++ [(⟨some ⟨pp, 0, none⟩, 11, (pg ++ [(⟨key, v.val, v.ver, v.lea⟩ : It)]).take 5⟩ : Rp), (⟨some ⟨pp, 0 + 5 * 4, none⟩, 2 * ((pg ++ [(⟨key, v.val, v.ver, v.lea⟩ : It)]).length - 5), (pg ++ [(⟨key, v.val, v.ver, v.lea⟩ : It)]).drop 5⟩ : Rp)]), i2 + 1), rfl, ⟨(M116.bare.focus 1 rfl).drop, ?_⟩, ?_⟩
          · exact ⟨O115, by first | (rw [hE]; exact outI_other hy112 e105) | (rw [hE, show i2 = home key (lstR rs) by omega, ← outI_home, hmm, if_pos e118]) | (rw [hE, show i2 = home key (lstR rs) by omega, ← outI_home, hmm, if_neg (by omega)]), by omega⟩
          · simp only []; omega
       ·
        refine X [(0, _), (6, _), (8, _), (9, _), (10, _), (11, _), (15, _), (16, _), (100, _)] rfl ?_
        refine WC.condF rfl (WC.exit ?_)
        refine AX (AQ ?_)
        obtain ⟨P2, rfl⟩ := Row.Own.shape hO2
        refine D rfl rfl (D rfl rfl (D rfl rfl (D rfl rfl ?_)))
        refine WS.st1 (M87.focus 6 rfl) [_] [_] rfl rfl rfl rfl rfl (F rfl) (F rfl) rfl rfl ?_
        intro h118 M119
        replace M119 : Mem _ _ ([(w, _)] :: S2 :: [(pp, _)] :: [(p74, _)] :: [(p10, _)] :: [(p4, _)] :: [(p1, _)] :: J :: L) _ := M119
        refine X [(6, _), (8, _), (9, _)] rfl ?_
        refine AX (AQ (D rfl (op_lds [_, _, _] (M119.at 4 rfl) rfl (F rfl) rfl) (D rfl rfl ?_)))
        refine WS.st1 (M119.focus 5 rfl) [_, _, _] [_, _, _] rfl rfl rfl rfl rfl (F rfl) (F rfl) rfl rfl ?_
        intro h120 M121
        replace M121 : Mem _ _ ([(p4, _)] :: [(w, _)] :: S2 :: [(pp, _)] :: [(p74, _)] :: [(p10, _)] :: [(p1, _)] :: J :: L) _ := M121
        refine D rfl rfl (X [(6, _), (7, _)] rfl ?_)
        refine WC.ret (⟨[_, _], (res_cellN [_, _, _] rfl (M121.at 0 rfl) (F rfl) rfl (res_tmp rfl res_nil)), ?_⟩)
        have hm2 : lstR mm = if (putF yp.l (⟨key, v.val, v.ver, v.lea⟩ : It)).length ≤ 8 then [putF yp.l (⟨key, v.val, v.ver, v.lea⟩ : It)] else [(putF yp.l (⟨key, v.val, v.ver, v.lea⟩ : It)).take 5, (putF yp.l (⟨key, v.val, v.ver, v.lea⟩ : It)).drop 5] := by rw [hmm, hpf]; by_cases c : (putF yp.l (⟨key, v.val, v.ver, v.lea⟩ : It)).length < 9; (rw [if_pos c, if_pos (by omega)]; rfl); (rw [if_neg c, if_neg (by omega)]; rfl)
        have hpe := putR_end hI (List.length_pos_iff.1 (Nat.pos_of_ne_zero e28)) hyp hm2
        rw [outI_end hHl (by omega)] at hE
        refine ⟨rfl, AfterR.mk' (rs0 := rs) hO2 hJ2 (fun r hr => ?_) (by rw [hE]; exact hpe) (((((((M121.focus 0 rfl).drop).focus 3 rfl).drop).focus 3 rfl).drop).focus 3 rfl).drop⟩
        rw [hE] at hr
        rcases List.mem_append.1 hr with q | q
        · rcases List.mem_append.1 q with q | q
          · exact .inl (List.mem_of_mem_take q)
          · right; intro h hh
            have hb := hh _ (List.mem_singleton.2 rfl)
            rw [hmm] at q
            split at q
            · rw [List.mem_singleton] at q; subst q; exact sl_all hb
            · rename_i c9; rcases List.mem_cons.1 q with rfl | q
              · exact sl_take 5 hb (by omega)
              · rw [List.mem_singleton] at q; subst q; exact slPg (g := ⟨pp, 0, _⟩) 5 _ hb (by simp only []; omega)
        · exact .inl (List.mem_of_mem_drop q)
     ·
      refine WS.opV (.bool false) rfl rfl rfl (X [(0, _), (1, _), (5, _), (6, _), (8, _), (9, _), (10, _), (11, _), (87, _)] rfl ?_)
      refine WC.condF rfl (WC.skip (AX (AQ (D rfl rfl (X [(0, _), (6, _), (8, _), (9, _), (10, _), (11, _), (15, _)] rfl ?_)))))
      refine AX (AX (AQ (D rfl rfl (X [(0, _), (6, _), (8, _), (9, _), (10, _), (11, _), (15, _), (16, _)] rfl ?_))))
      refine WC.block ?_
      obtain ⟨P1_, rfl⟩ := Row.Own.shape hO_
      have hpf : pg = putF yp.l (⟨key, v.val, v.ver, v.lea⟩ : It) := by first | (have q := (hP.2.2 rfl).1; rw [List.take_of_length_le (by omega)] at q; exact q) | (have q := hP.2.1 rfl; have q2 := q.1; have q3 := q.2; rw [List.take_of_length_le (by omega)] at q2 q3; rw [q3]; exact (put_low q2).symm)
      have hpl := putF_len (it := (⟨key, v.val, v.ver, v.lea⟩ : It)) hys
      rw [← hpf] at hpl
      obtain ⟨pp, rfl, rfl⟩ := own_row hO_ (by intro e; rw [e] at hpl; simp at hpl)
      obtain ⟨mm, hmm⟩ : ∃ mm : List Rp, mm = if (pg).length < 9 then [(⟨some ⟨pp, 0, none⟩, 2 * pg.length, pg⟩ : Rp)] else [(⟨some ⟨pp, 0, none⟩, 11, pg.take 5⟩ : Rp), (⟨some ⟨pp, 0 + 5 * 4, none⟩, 2 * (pg.length - 5), pg.drop 5⟩ : Rp)] := ⟨_, rfl⟩
      have hml : mm.length ≤ 2 := by rw [hmm]; split <;> simp
      have hHl := (List.getElem?_eq_some_iff.1 hyp).1
      obtain ⟨L122, eL124, M123⟩ := Mem.name1 ((M32.bare).nils)
      refine WC.loop (σ := Value × Seg × List Rp × Nat) (fun ((V2, S2, out2, i2)) => [(0, (.pointer (some ⟨w, 0, none⟩))), (6, (.pointer (some ⟨p4, 0, none⟩))), (8, (.pointer (some ⟨p10, 0, none⟩))), (9, (.bool ((getV (lstR rs).flatten key).2))), (10, (.int .i64 (((home key (lstR rs)) : Nat) : Int))), (11, (.slice (some ⟨pp, 0, none⟩) pg.length (2 * pg.length))), (15, V2), (16, (.int .i64 ((i2 : Nat) : Int)))]) (fun ((V2, S2, out2, i2)) hh => Mem base hh (S2 :: L122) [] ∧ KRp.Own V2 out2 S2 ∧ out2 = outI rs mm (home key (lstR rs)) i2 ∧ i2 ≤ rs.length) (fun ((V2, S2, out2, i2)) => rs.length - i2) (_, _, [], 0) rfl ⟨M123, ?_⟩ ?_
      · exact ⟨.nil, (outI_zero _ _ _).symm, by omega⟩
      ·rintro ⟨V2, S2, out2, i2⟩ h125 ⟨M126, ⟨hO2, hE, hi2⟩⟩
       replace eL124 := eL124.symm; subst eL124
       refine WC.env [(0, _), (6, _), (8, _), (9, _), (10, _), (11, _), (15, _), (16, _)] rfl ?_
       refine AX (AX (AQ (D rfl rfl (D rfl rfl (D rfl rfl (D rfl rfl (D rfl (op_ld (M126.at 5 rfl) rfl rfl) (D rfl (op_lenVS (hJ1 _ (Mem.owni M126 6 rfl)) rfl) ?_))))))))
       refine WS.lssN (a := i2) (b := (rs).length) rfl rfl rfl (fun e100 => ?_) (fun e100 => ?_)
       ·
        refine X [(0, _), (6, _), (8, _), (9, _), (10, _), (11, _), (15, _), (16, _), (100, _)] rfl ?_
        refine WC.condT rfl (WC.skip (AX (WC.block (AX (AQ (D rfl rfl (D rfl rfl ?_)))))))
        refine WS.neqN (a := i2) (b := (home key (lstR rs))) rfl rfl rfl (fun e105 => ?_) (fun e105 => ?_)
        ·
         refine X [(0, _), (6, _), (8, _), (9, _), (10, _), (11, _), (15, _), (16, _), (105, _)] rfl ?_
         refine WC.condT rfl (AQ (D rfl rfl (D rfl rfl (D rfl rfl (D rfl rfl (D rfl (op_ld (M126.at 5 rfl) rfl rfl) (D rfl rfl ?_)))))))
         obtain ⟨y112, hy112⟩ : ∃ y, (rs)[i2]? = some y := ⟨_, List.getElem?_eq_getElem (show i2 < (rs).length by first | omega | (simp only [List.length_drop, AZ, Y, G, U, List.length_singleton]; omega) | (simp only [List.length_drop, AZ, Y, G, U, List.length_singleton] at *; omega))⟩
         refine WS.iaVS (hJ1 _ (Mem.owni M126 6 rfl)) i2 hy112 rfl rfl rfl rfl ?_
         intro b112_ o112_ ha112
         refine D rfl (op_ldH rfl (At.ld0 ha112 rfl)) ?_
         refine WS.bsl M126 [_] rfl rfl rfl rfl ?_
         intro p127 h128 M129
         refine WS.app (l := out2) (m := [y112]) (hO2) (M129.focus 1 rfl) (Row.Src.one (K := KRp) (m := [y112]) (M129.at 0 rfl)) rfl (by have := congrArg List.length hE; have q := outI_len (rs := rs) (m := mm) (H := home key (lstR rs)) (i := i2); simp only [G, U]; omega) (by have := congrArg List.length hE; have q := outI_len (rs := rs) (m := mm) (H := home key (lstR rs)) (i := i2); simp only [G, U]; omega) rfl rfl rfl ?_
         intro V130 S131 h132 O133 M134
         obtain ⟨P135, rfl⟩ := Row.Own.shape O133
         refine D rfl rfl (X [(0, _), (6, _), (8, _), (9, _), (10, _), (11, _), (15, _), (16, _)] rfl ?_)
         refine AQ (D rfl rfl (WS.opV (.int .i64 (((i2 + 1) : Nat) : Int)) rfl rfl (add_i64 (a := i2) (b := 1) (by omega)) (D rfl rfl (X [(0, _), (6, _), (8, _), (9, _), (10, _), (11, _), (15, _), (16, _)] rfl ?_))))
         refine ⟨((.slice P135 ((out2 ++ [y112])).length (2 * ((out2 ++ [y112])).length)), S131, (out2 ++ [y112]), i2 + 1), rfl, ⟨(M134.focus 1 rfl).drop, ?_⟩, ?_⟩
         · exact ⟨O133, by first | (rw [hE]; exact outI_other hy112 e105) | (rw [hE, show i2 = home key (lstR rs) by omega, ← outI_home, hmm, if_pos e118]) | (rw [hE, show i2 = home key (lstR rs) by omega, ← outI_home, hmm, if_neg (by omega)]), by omega⟩
         · simp only []; omega
        ·
         refine X [(0, _), (6, _), (8, _), (9, _), (10, _), (11, _), (15, _), (16, _), (105, _)] rfl ?_
         refine WC.condF rfl (AX (AQ (D rfl rfl (D rfl rfl ?_))))
         refine WS.lssN (a := pg.length) (b := 9) rfl rfl rfl (fun e118 => ?_) (fun e118 => ?_)
         ·
          refine X [(0, _), (6, _), (8, _), (9, _), (10, _), (11, _), (15, _), (16, _), (118, _)] rfl ?_
          refine WC.condT rfl (AQ (D rfl rfl (D rfl rfl ?_)))
          refine WS.bsl M126 [_] rfl rfl rfl rfl ?_
          intro p136 h137 M138
          refine WS.app (l := out2) (m := [(⟨some ⟨pp, 0, none⟩, 2 * pg.length, pg⟩ : Rp)]) (hO2) (M138.focus 1 rfl) (Row.Src.one (K := KRp) (m := [(⟨some ⟨pp, 0, none⟩, 2 * pg.length, pg⟩ : Rp)]) (M138.at 0 rfl)) rfl (by have := congrArg List.length hE; have q := outI_len (rs := rs) (m := mm) (H := home key (lstR rs)) (i := i2); simp only [G, U]; omega) (by have := congrArg List.length hE; have q := outI_len (rs := rs) (m := mm) (H := home key (lstR rs)) (i := i2); simp only [G, U]; omega) rfl rfl rfl ?_
          intro V139 S140 h141 O142 M143
          obtain ⟨P144, rfl⟩ := Row.Own.shape O142
          refine D rfl rfl (X [(0, _), (6, _), (8, _), (9, _), (10, _), (11, _), (15, _), (16, _)] rfl ?_)
          refine AQ (D rfl rfl (WS.opV (.int .i64 (((i2 + 1) : Nat) : Int)) rfl rfl (add_i64 (a := i2) (b := 1) (by omega)) (D rfl rfl (X [(0, _), (6, _), (8, _), (9, _), (10, _), (11, _), (15, _), (16, _)] rfl ?_))))
          refine ⟨((.slice P144 ((out2 ++ [(⟨some ⟨pp, 0, none⟩, 2 * pg.length, pg⟩ : Rp)])).length (2 * ((out2 ++ [(⟨some ⟨pp, 0, none⟩, 2 * pg.length, pg⟩ : Rp)])).length)), S140, (out2 ++ [(⟨some ⟨pp, 0, none⟩, 2 * pg.length, pg⟩ : Rp)]), i2 + 1), rfl, ⟨(M143.focus 1 rfl).drop, ?_⟩, ?_⟩
          · exact ⟨O142, by first | (rw [hE]; exact outI_other hy112 e105) | (rw [hE, show i2 = home key (lstR rs) by omega, ← outI_home, hmm, if_pos e118]) | (rw [hE, show i2 = home key (lstR rs) by omega, ← outI_home, hmm, if_neg (by omega)]), by omega⟩
          · simp only []; omega
         ·
          refine X [(0, _), (6, _), (8, _), (9, _), (10, _), (11, _), (15, _), (16, _), (118, _)] rfl ?_
          refine WC.condF rfl (WC.draw M126 [5] rfl ?_)
          intro rb145 h146 M147
          refine D rfl rfl (D rfl rfl (WS.opV (.slice (some ⟨pp, 0, none⟩) (pg.take 5).length 11) rfl (op_sl5 rfl (by omega)) (by rw [AZ, Nat.min_eq_left (by omega)]) (D rfl rfl (WS.opV (.slice (some ⟨pp, 0 + 5 * 4, none⟩) (pg.drop 5).length (2 * (pg.length - 5))) rfl (op_slE0 (C := pg.length) 5 (M147.at 1 rfl) rfl rfl rfl (by omega) (by omega)) (by rw [List.length_drop]) ?_))))
          refine WS.bslA M147 [_, _] 0 rfl rfl rfl rfl rfl ?_
          intro h149 M150
          refine WS.app (l := out2) (m := [(⟨some ⟨pp, 0, none⟩, 11, pg.take 5⟩ : Rp), (⟨some ⟨pp, 0 + 5 * 4, none⟩, 2 * (pg.length - 5), pg.drop 5⟩ : Rp)]) (hO2) (M150.focus 1 rfl) (Row.Src.one (K := KRp) (m := [(⟨some ⟨pp, 0, none⟩, 11, pg.take 5⟩ : Rp), (⟨some ⟨pp, 0 + 5 * 4, none⟩, 2 * (pg.length - 5), pg.drop 5⟩ : Rp)]) (M150.at 0 rfl)) rfl (by have := congrArg List.length hE; have q := outI_len (rs := rs) (m := mm) (H := home key (lstR rs)) (i := i2); simp only [G, U]; omega) (by have := congrArg List.length hE; have q := outI_len (rs := rs) (m := mm) (H := home key (lstR rs)) (i := i2); simp only [G, U]; omega) rfl rfl rfl ?_
          intro V151 S152 h153 O154 M155
          obtain ⟨P156, rfl⟩ := Row.Own.shape O154
          refine D rfl rfl (X [(0, _), (6, _), (8, _), (9, _), (10, _), (11, _), (15, _), (16, _)] rfl ?_)
          refine AQ (D rfl rfl (WS.opV (.int .i64 (((i2 + 1) : Nat) : Int)) rfl rfl (add_i64 (a := i2) (b := 1) (by omega)) (D rfl rfl (X [(0, _), (6, _), (8, _), (9, _), (10, _), (11, _), (15, _), (16, _)] rfl ?_))))
          refine ⟨((.slice P156 ((out2 ++ [(⟨some ⟨pp, 0, none⟩, 11, pg.take 5⟩ : Rp), (⟨some ⟨pp, 0 + 5 * 4, none⟩, 2 * (pg.length - 5), pg.drop 5⟩ : Rp)])).length (2 * ((out2 ++ [(⟨some ⟨pp, 0, none⟩, 11, pg.take 5⟩ : Rp), (⟨some ⟨pp, 0 + 5 * 4, none⟩, 2 * (pg.length - 5), pg.drop 5⟩ : Rp)])).length)), S152, (out2 ++ [(⟨some ⟨pp, 0, none⟩, 11, pg.take 5⟩ : Rp), (⟨some ⟨pp, 0 + 5 * 4, none⟩, 2 * (pg.length - 5), pg.drop 5⟩ : Rp)]), i2 + 1), rfl, ⟨(M155.bare.focus 1 rfl).drop, ?_⟩, ?_⟩
          · exact ⟨O154, by first | (rw [hE]; exact outI_other hy112 e105) | (rw [hE, show i2 = home key (lstR rs) by omega, ← outI_home, hmm, if_pos e118]) | (rw [hE, show i2 = home key (lstR rs) by omega, ← outI_home, hmm, if_neg (by omega)]), by omega⟩
          · simp only []; omega
       ·
        refine X [(0, _), (6, _), (8, _), (9, _), (10, _), (11, _), (15, _), (16, _), (100, _)] rfl ?_
        refine WC.condF rfl (WC.exit ?_)
        refine AX (AQ ?_)
        obtain ⟨P2, rfl⟩ := Row.Own.shape hO2
        refine D rfl rfl (D rfl rfl (D rfl rfl (D rfl rfl ?_)))
        refine WS.st1 (M126.focus 5 rfl) [_] [_] rfl rfl rfl rfl rfl (F rfl) (F rfl) rfl rfl ?_
        intro h157 M158
        replace M158 : Mem _ _ ([(w, _)] :: S2 :: [(pp, _)] :: [(p10, _)] :: [(p4, _)] :: [(p1, _)] :: J :: L) _ := M158
        refine X [(6, _), (8, _), (9, _)] rfl ?_
        refine AX (AQ (D rfl (op_lds [_, _, _] (M158.at 3 rfl) rfl (F rfl) rfl) (D rfl rfl ?_)))
        refine WS.st1 (M158.focus 4 rfl) [_, _, _] [_, _, _] rfl rfl rfl rfl rfl (F rfl) (F rfl) rfl rfl ?_
        intro h159 M160
        replace M160 : Mem _ _ ([(p4, _)] :: [(w, _)] :: S2 :: [(pp, _)] :: [(p10, _)] :: [(p1, _)] :: J :: L) _ := M160
        refine D rfl rfl (X [(6, _), (7, _)] rfl ?_)
        refine WC.ret (⟨[_, _], (res_cellN [_, _, _] rfl (M160.at 0 rfl) (F rfl) rfl (res_tmp rfl res_nil)), ?_⟩)
        have hm2 : lstR mm = if (putF yp.l (⟨key, v.val, v.ver, v.lea⟩ : It)).length ≤ 8 then [putF yp.l (⟨key, v.val, v.ver, v.lea⟩ : It)] else [(putF yp.l (⟨key, v.val, v.ver, v.lea⟩ : It)).take 5, (putF yp.l (⟨key, v.val, v.ver, v.lea⟩ : It)).drop 5] := by rw [hmm, hpf]; by_cases c : (putF yp.l (⟨key, v.val, v.ver, v.lea⟩ : It)).length < 9; (rw [if_pos c, if_pos (by omega)]; rfl); (rw [if_neg c, if_neg (by omega)]; rfl)
        have hpe := putR_end hI (List.length_pos_iff.1 (Nat.pos_of_ne_zero e28)) hyp hm2
        rw [outI_end hHl (by omega)] at hE
        refine ⟨rfl, AfterR.mk' (rs0 := rs) hO2 hJ2 (fun r hr => ?_) (by rw [hE]; exact hpe) (((((M160.focus 0 rfl).drop).focus 3 rfl).drop).focus 3 rfl).drop⟩
        rw [hE] at hr
        rcases List.mem_append.1 hr with q | q
        · rcases List.mem_append.1 q with q | q
          · exact .inl (List.mem_of_mem_take q)
          · right; intro h hh
            have hb := hh _ (List.mem_singleton.2 rfl)
            rw [hmm] at q
            split at q
            · rw [List.mem_singleton] at q; subst q; exact sl_all hb
            · rename_i c9; rcases List.mem_cons.1 q with rfl | q
              · exact sl_take 5 hb (by omega)
              · rw [List.mem_singleton] at q; subst q; exact slPg (g := ⟨pp, 0, _⟩) 5 _ hb (by simp only []; omega)
        · exact .inl (List.mem_of_mem_drop q)
end Go.Proofs.Ytfnhhelbegnopaa.Wt
namespace Go.Proofs.Ytfnhhelbegnopaa.Wt
open Go Go.Proofs.Ytfnhhelbegnopaa.Am Go.Proofs.Ytfnhhelbegnopaa.IrAll
open Go.Proofs.Ytfnhhelbegnopaa.Am.WS renaming op → C
open Nat renaming le_of_ble_eq_true → D
set_option linter.unusedVariables false
set_option linter.unusedSimpArgs false
variable {h base h2 : H} {L : List Seg} {R : List Nat}
theorem delL_len {LL : List (List It)} {key : List UInt8} : (delL LL key).length ≤ LL.length := by
  unfold delL; exact Nat.le_trans (List.length_filter_le ..) (by rw [List.length_map]; exact Nat.le_refl _)
theorem delF_snoc {l : List It} {key : List UInt8} {i : Nat} {x : It} (hx : l[i]? = some x) : delF (l.take (i + 1)) key = delF (l.take i) key ++ if x.ky ≠ key then [x] else [] := by
  unfold delF
  rw [List.take_add_one, hx, Option.toList_some, List.filter_append]
  congr 1
  by_cases c : x.ky ≠ key
  · rw [if_pos c, List.filter_cons_of_pos (by simpa using c)]; rfl
  · rw [if_neg c, List.filter_cons_of_neg (by simpa using c)]; rfl
theorem delF_len {l : List It} {key : List UInt8} : (delF l key).length ≤ l.length := List.length_filter_le ..
theorem delL_snoc {rs : List Rp} {key : List UInt8} {i : Nat} {y : Rp} (hy : rs[i]? = some y) : delL ((lstR rs).take (i + 1)) key = delL ((lstR rs).take i) key ++ if delF y.l key = [] then [] else [delF y.l key] := by
  unfold delL
  rw [List.take_add_one, lstR_get hy, Option.toList_some, List.map_append, List.filter_append]
  congr 1
  by_cases c : delF y.l key = []
  · rw [if_pos c]; simp [c]
  · rw [if_neg c]
    show List.filter _ [delF y.l key] = _
    rw [List.filter_cons_of_pos (by cases q : delF y.l key with | nil => exact absurd q c | cons _ _ => rfl)]; rfl
theorem Mem.glue {A B : Seg} (M : Mem base h (A :: B :: L) R) : Mem base h ((A ++ B) :: L) R := M.perm (by simp)
def Aside (J : Seg) (out : List Rp) : Prop := ∀ r ∈ out, ∀ h : H, (∀ p ∈ J, h.get p.1 = some p.2) → KIt.Sl h r.val r.l
theorem Aside.more {J S : Seg} {out : List Rp} {P : Option Addr} {l : List It} (hJ : Aside J out) (O : KIt.Own (.slice P l.length (2 * l.length)) l S) : Aside (S ++ J) (out ++ [⟨P, 2 * l.length, l⟩]) := by
  intro r hr h hh
  rcases List.mem_append.1 hr with q | q
  · exact hJ r q h fun p hp => hh p (List.mem_append_right _ hp)
  · rw [List.mem_singleton] at q; subst q
    exact O.sl fun p hp => hh p (List.mem_append_left _ hp)
set_option maxRecDepth 8000 in
set_option maxHeartbeats 2000000 in
theorem rdel_ran {w nl : Nat} {Pl : Option Addr} {rs : List Rp} {J : Seg} {key : List UInt8} (M : Mem base h ([(w, ⟨[.slice Pl rs.length nl], 0, false⟩)] :: J :: L) []) (hJ1 : ∀ h : H, (∀ p ∈ J, h.get p.1 = some p.2) → KRp.Sl h (.slice Pl rs.length nl) rs) (hJ2 : ∀ r ∈ rs, ∀ h : H, (∀ p ∈ J, h.get p.1 = some p.2) → KIt.Sl h r.val r.l) (hI : Inv (lstR rs)) (hlen : rs.length ≤ 1000000) (hn : (lstR rs).flatten.length ≤ 900000) :
    Cll tab0 20 [.pointer (some ⟨w, 0, none⟩), .string (bs key)] h (fun u h2 => u = .tuple #[.agg (Vl.cells (getV (lstR rs).flatten key).1).toArray, .bool (getV (lstR rs).flatten key).2] ∧ AfterR w base h2 L (delL (lstR rs) key)) := by
  refine Cll.code rfl rfl ?_
  refine WC.env [(0, _), (1, _)] rfl ?_
  refine WC.seq (WC.run (WS.new M rfl ?_))
  intro p1 h2 M3
  refine C rfl rfl (WS.nil [(0, _), (1, _), (4, _)] rfl ?_)
  refine WC.seq (WC.run (C rfl rfl (C rfl rfl ?_)))
  refine WS.call rfl rfl rfl (rGet_ran M3.bare.here (key := key) (rs := rs) (w := w) ⟨⟨_, (M3.at 1 rfl), hJ1 _ (Mem.owni M3 2 rfl)⟩, fun r hr => hJ2 r hr _ (Mem.owni M3 2 rfl)⟩ hlen hn) ?_
  rintro _ h4 ⟨rfl, N5⟩
  have M6 := M3.trans N5
  refine C rfl rfl (C rfl rfl (C rfl rfl ?_))
  refine WS.new M6 rfl ?_
  intro p7 h8 M9
  refine WS.st1 (M9.focus 0 rfl) [_, _, _] [_, _, _] rfl rfl rfl rfl rfl (D rfl) (D rfl) rfl rfl ?_
  intro h10 M11
  replace M11 : Mem _ _ ([(p7, _)] :: [(p1, _)] :: [(w, _)] :: J :: L) _ := M11
  refine C rfl rfl (WS.nil [(0, _), (1, _), (4, _), (6, _), (7, _)] rfl ?_)
  refine WC.seq (WC.run (C rfl rfl (WS.nil [(0, _), (1, _), (4, _), (6, _), (7, _), (8, _)] rfl ?_)))
  refine WC.seq (WC.seq (WC.run (C rfl rfl (WS.nil [(0, _), (1, _), (4, _), (6, _), (7, _), (8, _), (9, _)] rfl ?_))))
  refine WC.block ?_
  obtain ⟨L12, eL14, M13⟩ := Mem.name2 (((M11.bare).nils).nils)
  refine WC.loop (σ := Value × Seg × Seg × List Rp × Nat) (fun ((V2, S2, J2, out, i)) => [(0, (.pointer (some ⟨w, 0, none⟩))), (1, (.string (bs key))), (4, (.pointer (some ⟨p1, 0, none⟩))), (6, (.pointer (some ⟨p7, 0, none⟩))), (7, (.bool ((getV (lstR rs).flatten key).2))), (8, V2), (9, (.int .i64 ((i : Nat) : Int)))]) (fun ((V2, S2, J2, out, i)) hh => Mem base hh (S2 :: J2 :: L12) [] ∧ KRp.Own V2 out S2 ∧ lstR out = delL ((lstR rs).take i) key ∧ Aside J2 out ∧ i ≤ rs.length) (fun ((V2, S2, J2, out, i)) => rs.length - i) (_, _, _, [], 0) rfl ⟨M13, ?_⟩ ?_
  · exact ⟨.nil, by simp [lstR, delL], fun r hr => absurd hr (by simp), by omega⟩
  ·rintro ⟨V2, S2, J2, out, i⟩ h15 ⟨M16, ⟨hO2, hE, hA, hi⟩⟩
   replace eL14 := eL14.symm; subst eL14
   refine WC.env [(0, _), (1, _), (4, _), (6, _), (7, _), (8, _), (9, _)] rfl ?_
   refine WC.seq (WC.seq (WC.run (C rfl rfl (C rfl rfl (C rfl rfl (C rfl rfl (C rfl (op_ld (M16.at 4 rfl) rfl rfl) (C rfl (op_lenVS (hJ1 _ (Mem.owni M16 5 rfl)) rfl) ?_))))))))
   refine WS.lssN (a := i) (b := (rs).length) rfl rfl rfl (fun e24 => ?_) (fun e24 => ?_)
   ·
    refine WS.nil [(0, _), (1, _), (4, _), (6, _), (7, _), (8, _), (9, _), (24, _)] rfl ?_
    refine WC.condT rfl (WC.skip (WC.seq (WC.block (WC.seq (WC.run (C rfl rfl (WS.nil [(0, _), (1, _), (4, _), (6, _), (7, _), (8, _), (9, _), (10, _)] rfl ?_)))))))
    refine WC.seq (WC.seq (WC.run (C rfl rfl (WS.nil [(0, _), (1, _), (4, _), (6, _), (7, _), (8, _), (9, _), (10, _), (11, _)] rfl ?_))))
    refine WC.block ?_
    obtain ⟨yp, hyp⟩ : ∃ y, rs[i]? = some y := ⟨_, List.getElem?_eq_getElem (by omega)⟩
    have hyl := hI.1 _ (memR (List.mem_of_getElem? hyp))
    obtain ⟨L17, eL19, M18⟩ := Mem.name1 ((M16.bare).nils)
    refine WC.loop (σ := Value × Seg × List It × Nat) (fun ((V3, S3, pg, j)) => [(0, (.pointer (some ⟨w, 0, none⟩))), (1, (.string (bs key))), (4, (.pointer (some ⟨p1, 0, none⟩))), (6, (.pointer (some ⟨p7, 0, none⟩))), (7, (.bool ((getV (lstR rs).flatten key).2))), (8, V2), (9, (.int .i64 ((i : Nat) : Int))), (10, V3), (11, (.int .i64 ((j : Nat) : Int)))]) (fun ((V3, S3, pg, j)) hh => Mem base hh (S3 :: L17) [] ∧ KIt.Own V3 pg S3 ∧ pg = delF (yp.l.take j) key ∧ j ≤ yp.l.length) (fun ((V3, S3, pg, j)) => yp.l.length - j) (_, _, [], 0) rfl ⟨M18, ?_⟩ ?_
    · exact ⟨.nil, by simp [delF], by omega⟩
    ·rintro ⟨V3, S3, pg, j⟩ h20 ⟨M21, ⟨hO3, hP, hj⟩⟩
     replace eL19 := eL19.symm; subst eL19
     refine WC.env [(0, _), (1, _), (4, _), (6, _), (7, _), (8, _), (9, _), (10, _), (11, _)] rfl ?_
     refine WC.seq (WC.seq (WC.run (C rfl rfl (C rfl rfl (C rfl rfl (C rfl rfl (C rfl (op_ld (M21.at 5 rfl) rfl rfl) (C rfl rfl ?_))))))))
     refine WS.iaVS (hJ1 _ (Mem.owni M21 6 rfl)) i hyp rfl rfl rfl rfl ?_
     intro b33_ o33_ ha33
     refine C rfl (op_ldH rfl (At.ld0 ha33 rfl)) (C rfl (op_lenVS ((hJ2 yp (List.mem_of_getElem? hyp)) _ (Mem.owni M21 6 rfl)) rfl) ?_)
     refine WS.lssN (a := j) (b := (yp.l).length) rfl rfl rfl (fun e36 => ?_) (fun e36 => ?_)
     ·
      refine WS.nil [(0, _), (1, _), (4, _), (6, _), (7, _), (8, _), (9, _), (10, _), (11, _), (36, _)] rfl ?_
      refine WC.condT rfl (WC.skip (WC.seq (WC.block (WC.seq (WC.run (C rfl rfl (C rfl rfl (C rfl rfl (C rfl (op_ld (M21.at 5 rfl) rfl rfl) (C rfl rfl ?_))))))))))
      refine WS.iaVS (hJ1 _ (Mem.owni M21 6 rfl)) i hyp rfl rfl rfl rfl ?_
      intro b44_ o44_ ha44
      refine C rfl (op_ldH rfl (At.ld0 ha44 rfl)) (C rfl rfl ?_)
      obtain ⟨y47, hy47⟩ : ∃ y, (yp.l)[j]? = some y := ⟨_, List.getElem?_eq_getElem (show j < (yp.l).length by first | omega | (simp only [List.length_drop, List.length_take, List.length_append, List.length_cons, List.length_nil, List.length_singleton]; omega) | (simp only [List.length_drop, List.length_take, List.length_append, List.length_cons, List.length_nil, List.length_singleton] at *; omega))⟩
      refine WS.iaVS ((hJ2 yp (List.mem_of_getElem? hyp)) _ (Mem.owni M21 6 rfl)) j hy47 rfl rfl rfl rfl ?_
      intro b47_ o47_ ha47
      refine C rfl rfl (C rfl (op_ldH rfl (At.ld0 ha47 rfl)) (C rfl rfl ?_))
      refine WS.sneq (l := y47.ky) (m := key) rfl rfl rfl (fun e51 => ?_) (fun e51 => ?_)
      ·
       refine WS.nil [(0, _), (1, _), (4, _), (6, _), (7, _), (8, _), (9, _), (10, _), (11, _), (51, _)] rfl ?_
       refine WC.condT rfl (WC.run (C rfl rfl (C rfl rfl (C rfl rfl (C rfl rfl (C rfl (op_ld (M21.at 5 rfl) rfl rfl) (C rfl rfl ?_)))))))
       refine WS.iaVS (hJ1 _ (Mem.owni M21 6 rfl)) i hyp rfl rfl rfl rfl ?_
       intro b58_ o58_ ha58
       refine C rfl (op_ldH rfl (At.ld0 ha58 rfl)) (C rfl rfl ?_)
       refine WS.iaVS ((hJ2 yp (List.mem_of_getElem? hyp)) _ (Mem.owni M21 6 rfl)) j hy47 rfl rfl rfl rfl ?_
       intro b61_ o61_ ha61
       refine C rfl (op_ldAt rfl ha61 rfl) ?_
       refine WS.bsl M21 [_, _, _, _] rfl rfl rfl rfl ?_
       intro p22 h23 M24
       refine WS.app (l := pg) (m := [y47]) (hO3) (M24.focus 1 rfl) (Row.Src.one (K := KIt) (m := [y47]) (M24.at 0 rfl)) rfl (by have := congrArg List.length hP; have q := delF_len (l := yp.l.take j) (key := key); simp only [List.length_take, List.length_cons, List.length_nil] at this q ⊢; omega) (by have := congrArg List.length hP; have q := delF_len (l := yp.l.take j) (key := key); simp only [List.length_take, List.length_cons, List.length_nil] at this q ⊢; omega) rfl rfl rfl ?_
       intro V25 S26 h27 O28 M29
       obtain ⟨P30, rfl⟩ := Row.Own.shape O28
       refine C rfl rfl (WS.nil [(0, _), (1, _), (4, _), (6, _), (7, _), (8, _), (9, _), (10, _), (11, _)] rfl ?_)
       refine WC.run (C rfl rfl (WS.opV (.int .i64 (((j + 1) : Nat) : Int)) rfl rfl (add_i64 (a := j) (b := 1) (by omega)) (C rfl rfl (WS.nil [(0, _), (1, _), (4, _), (6, _), (7, _), (8, _), (9, _), (10, _), (11, _)] rfl ?_))))
       refine ⟨((.slice P30 ((pg ++ [y47])).length (2 * ((pg ++ [y47])).length)), S26, (pg ++ [y47]), j + 1), rfl, ⟨(M29.focus 1 rfl).drop, ?_⟩, ?_⟩
       · exact ⟨O28, by rw [delF_snoc hy47, ← hP]; first | (rw [if_pos (by assumption)]) | (rw [if_neg (fun q => q (by assumption)), List.append_nil]), by omega⟩
       · simp only []; omega
      ·
       refine WS.nil [(0, _), (1, _), (4, _), (6, _), (7, _), (8, _), (9, _), (10, _), (11, _), (51, _)] rfl ?_
       refine WC.condF rfl (WC.skip (WC.run (C rfl rfl (WS.opV (.int .i64 (((j + 1) : Nat) : Int)) rfl rfl (add_i64 (a := j) (b := 1) (by omega)) (C rfl rfl (WS.nil [(0, _), (1, _), (4, _), (6, _), (7, _), (8, _), (9, _), (10, _), (11, _)] rfl ?_))))))
       refine ⟨(V3, S3, pg, j + 1), rfl, ⟨M21, ?_⟩, ?_⟩
       · exact ⟨hO3, by rw [delF_snoc hy47, ← hP]; first | (rw [if_pos (by assumption)]) | (rw [if_neg (fun q => q (by assumption)), List.append_nil]), by omega⟩
       · simp only []; omega
     ·
      refine WS.nil [(0, _), (1, _), (4, _), (6, _), (7, _), (8, _), (9, _), (10, _), (11, _), (36, _)] rfl ?_
      refine WC.condF rfl (WC.exit ?_)
      refine WC.seq (WC.run ?_)
      obtain ⟨P3, rfl⟩ := Row.Own.shape hO3
      rw [List.take_of_length_le (by omega)] at hP
      refine C rfl rfl (C rfl (op_lenVO hO3 rfl) ?_)
      refine WS.gtrN (a := (pg).length) (b := 0) rfl rfl rfl (fun e67 => ?_) (fun e67 => ?_)
      ·
       refine WS.nil [(0, _), (1, _), (4, _), (6, _), (7, _), (8, _), (9, _), (10, _), (67, _)] rfl ?_
       refine WC.condT rfl (WC.run (C rfl rfl (C rfl rfl ?_)))
       refine WS.bsl M21 [_] rfl rfl rfl rfl ?_
       intro p31 h32 M33
       refine WS.app (l := out) (m := [(⟨P3, 2 * pg.length, pg⟩ : Rp)]) (hO2) (M33.focus 2 rfl) (Row.Src.one (K := KRp) (m := [(⟨P3, 2 * pg.length, pg⟩ : Rp)]) (M33.at 0 rfl)) rfl (by have := congrArg List.length hE; have q := delL_len (LL := (lstR rs).take i) (key := key); simp only [lstR, List.length_map, List.length_take, List.length_cons, List.length_nil] at this q ⊢; omega) (by have := congrArg List.length hE; have q := delL_len (LL := (lstR rs).take i) (key := key); simp only [lstR, List.length_map, List.length_take, List.length_cons, List.length_nil] at this q ⊢; omega) rfl rfl rfl ?_
       intro V34 S35 h36 O37 M38
       obtain ⟨P39, rfl⟩ := Row.Own.shape O37
       refine C rfl rfl (WS.nil [(0, _), (1, _), (4, _), (6, _), (7, _), (8, _), (9, _)] rfl ?_)
       refine WC.run ?_
       have MJ_ := Mem.glue ((((((((M38.focus 7 rfl).focus 7 rfl).focus 7 rfl).focus 7 rfl).focus 5 rfl).focus 5 rfl).focus 7 rfl).focus 7 rfl)
       refine C rfl rfl (WS.opV (.int .i64 (((i + 1) : Nat) : Int)) rfl rfl (add_i64 (a := i) (b := 1) (by omega)) (C rfl rfl (WS.nil [(0, _), (1, _), (4, _), (6, _), (7, _), (8, _), (9, _)] rfl ?_)))
       refine ⟨((.slice P39 ((out ++ [(⟨P3, 2 * pg.length, pg⟩ : Rp)])).length (2 * ((out ++ [(⟨P3, 2 * pg.length, pg⟩ : Rp)])).length)), S35, (S3 ++ J2), (out ++ [(⟨P3, 2 * pg.length, pg⟩ : Rp)]), i + 1), rfl, ⟨((((((((MJ_.focus 2 rfl).drop).focus 5 rfl).focus 5 rfl).focus 5 rfl).focus 5 rfl).focus 4 rfl).focus 5 rfl), ?_⟩, ?_⟩
       · exact ⟨O37, by rw [delL_snoc hyp, ← hP, if_neg (fun q => by rw [q] at e67; exact absurd e67 (by decide)), ← hE]; simp [lstR], hA.more hO3, by omega⟩
       · simp only []; omega
      ·
       refine WS.nil [(0, _), (1, _), (4, _), (6, _), (7, _), (8, _), (9, _), (10, _), (67, _)] rfl ?_
       refine WC.condF rfl (WC.skip (WC.run (C rfl rfl (WS.opV (.int .i64 (((i + 1) : Nat) : Int)) rfl rfl (add_i64 (a := i) (b := 1) (by omega)) (C rfl rfl (WS.nil [(0, _), (1, _), (4, _), (6, _), (7, _), (8, _), (9, _)] rfl ?_))))))
       refine ⟨(V2, S2, J2, out, i + 1), rfl, ⟨(M21.focus 0 rfl).drop, ?_⟩, ?_⟩
       · exact ⟨hO2, by rw [delL_snoc hyp, ← hP, if_pos (List.eq_nil_of_length_eq_zero (by omega)), List.append_nil, ← hE], hA, by omega⟩
       · simp only []; omega
   ·
    refine WS.nil [(0, _), (1, _), (4, _), (6, _), (7, _), (8, _), (9, _), (24, _)] rfl ?_
    refine WC.condF rfl (WC.exit ?_)
    refine WC.seq (WC.run ?_)
    obtain ⟨P2, rfl⟩ := Row.Own.shape hO2
    refine C rfl rfl (C rfl rfl (C rfl rfl (C rfl rfl ?_)))
    refine WS.st1 (M16.focus 4 rfl) [_] [_] rfl rfl rfl rfl rfl (D rfl) (D rfl) rfl rfl ?_
    intro h40 M41
    replace M41 : Mem _ _ ([(w, _)] :: S2 :: J2 :: [(p7, _)] :: [(p1, _)] :: J :: L) _ := M41
    refine WS.nil [(4, _), (6, _), (7, _)] rfl ?_
    refine WC.seq (WC.run (C rfl (op_lds [_, _, _] (M41.at 3 rfl) rfl (D rfl) rfl) (C rfl rfl ?_)))
    refine WS.st1 (M41.focus 4 rfl) [_, _, _] [_, _, _] rfl rfl rfl rfl rfl (D rfl) (D rfl) rfl rfl ?_
    intro h42 M43
    replace M43 : Mem _ _ ([(p1, _)] :: [(w, _)] :: S2 :: J2 :: [(p7, _)] :: J :: L) _ := M43
    refine C rfl rfl (WS.nil [(4, _), (5, _)] rfl ?_)
    refine WC.ret (⟨[_, _], (res_cellN [_, _, _] rfl (M43.at 0 rfl) (D rfl) rfl (res_tmp rfl res_nil)), ?_⟩)
    rw [List.take_of_length_le (by simp only [lstR, List.length_map]; omega)] at hE
    exact ⟨rfl, AfterR.mk' (rs0 := []) (J := J) (T := J2) hO2 (fun r hr => absurd hr (by simp)) (fun r hr => .inr (hA r hr)) hE (((M43.focus 0 rfl).drop).focus 3 rfl).drop⟩
end Go.Proofs.Ytfnhhelbegnopaa.Wt
namespace Go.Proofs.Ytfnhhelbegnopaa.Wt
open Go Go.Proofs.Ytfnhhelbegnopaa.Am Go.Proofs.Ytfnhhelbegnopaa.IrAll
open Go.Proofs.Ytfnhhelbegnopaa.Am.WS renaming op → C
set_option linter.unusedVariables false
set_option linter.unusedSimpArgs false
variable {h base h2 : H} {L : List Seg} {R : List Nat}
def RefSt (w : Nat) (LL : List (List It)) (S : Seg) : Prop := ∃ P n c rs J, S = (w, ⟨[.slice P n c], 0, false⟩) :: J ∧ (∀ h : H, (∀ p ∈ J, h.get p.1 = some p.2) → KRp.Sl h (.slice P n c) rs ∧ ∀ r ∈ rs, KIt.Sl h r.val r.l) ∧ lstR rs = LL
theorem RefSt.nil (w : Nat) : RefSt w [] [(w, ⟨[.slice none 0 0], 0, false⟩)] := ⟨none, 0, 0, [], [], rfl, fun h _ => ⟨.nil, fun r hr => absurd hr (by simp)⟩, rfl⟩
theorem AfterR.st {w : Nat} {LL : List (List It)} (A : AfterR w base h2 L LL) : ∃ S, RefSt w LL S ∧ Mem base h2 (S :: L) [] := by
  obtain ⟨P, n, c, rs, J, hf, hl, M⟩ := A
  exact ⟨_, ⟨P, n, c, rs, J, rfl, hf, hl⟩, M.perm (by simp)⟩
theorem RefSt.read {w : Nat} {LL : List (List It)} {S : Seg} (G : RefSt w LL S) (hS : ∀ p ∈ S, h.get p.1 = some p.2) : ∃ rs, lstR rs = LL ∧ RefR h w rs := by
  obtain ⟨P, n, c, rs, J, rfl, hf, hl⟩ := G
  have q := hf h fun p hp => hS p (List.mem_cons_of_mem _ hp)
  exact ⟨rs, hl, ⟨_, hS _ (List.mem_cons_self ..), q.1⟩, q.2⟩
theorem RefSt.open {w : Nat} {LL : List (List It)} {S : Seg} (G : RefSt w LL S) (M : Mem base h (S :: L) []) : ∃ P c rs J, lstR rs = LL ∧ (∀ h : H, (∀ p ∈ J, h.get p.1 = some p.2) → KRp.Sl h (.slice P rs.length c) rs) ∧ (∀ r ∈ rs, ∀ h : H, (∀ p ∈ J, h.get p.1 = some p.2) → KIt.Sl h r.val r.l) ∧ Mem base h ([(w, ⟨[.slice P rs.length c], 0, false⟩)] :: J :: L) [] := by
  obtain ⟨P, n, c, rs, J, rfl, hf, hl⟩ := G
  have q := (hf h fun p hp => Mem.owni M 0 rfl p (List.mem_cons_of_mem _ hp)).1
  obtain ⟨P2, c2, e⟩ := q.shape
  cases e
  exact ⟨P, c, rs, J, hl, fun h hh => (hf h hh).1, fun r hr h hh => (hf h hh).2 r hr, M.perm (by simp)⟩
theorem rs_le {rs : List Rp} (hI : Inv (lstR rs)) (hn : (lstR rs).flatten.length ≤ 900000) : rs.length ≤ 1000000 := by have := pages_le hI; rw [show (lstR rs).length = rs.length by simp [lstR]] at this; omega
theorem rPut_st {w : Nat} {LL : List (List It)} {S : Seg} {key : List UInt8} {v : Vl} (G : RefSt w LL S) (M : Mem base h (S :: L) []) (hI : Inv LL) (hn : LL.flatten.length ≤ 900000) :
    Cll tab0 18 [.pointer (some ⟨w, 0, none⟩), .string (bs key), .agg (Vl.cells v).toArray] h (fun u h2 => u = .tuple #[.agg (Vl.cells (getV LL.flatten key).1).toArray, .bool (getV LL.flatten key).2] ∧ ∃ S2, RefSt w (putL LL ⟨key, v.val, v.ver, v.lea⟩) S2 ∧ Mem base h2 (S2 :: L) []) := by
  obtain ⟨P, c, rs, J, rfl, h1, h2, M⟩ := G.open M
  exact (rput_ran M h1 h2 hI (rs_le hI hn) hn).mono fun w h2 ⟨a, b⟩ => ⟨a, b.st⟩
theorem rDelete_st {w : Nat} {LL : List (List It)} {S : Seg} {key : List UInt8} (G : RefSt w LL S) (M : Mem base h (S :: L) []) (hI : Inv LL) (hn : LL.flatten.length ≤ 900000) :
    Cll tab0 20 [.pointer (some ⟨w, 0, none⟩), .string (bs key)] h (fun u h2 => u = .tuple #[.agg (Vl.cells (getV LL.flatten key).1).toArray, .bool (getV LL.flatten key).2] ∧ ∃ S2, RefSt w (delL LL key) S2 ∧ Mem base h2 (S2 :: L) []) := by
  obtain ⟨P, c, rs, J, rfl, h1, h2, M⟩ := G.open M
  exact (rdel_ran M h1 h2 hI (rs_le hI hn) hn).mono fun w h2 ⟨a, b⟩ => ⟨a, b.st⟩
theorem rGet_st {w : Nat} {LL : List (List It)} {S : Seg} {key : List UInt8} (G : RefSt w LL S) (M : Mem base h (S :: L) []) (hI : Inv LL) (hn : LL.flatten.length ≤ 900000) :
    Cll tab0 21 [.pointer (some ⟨w, 0, none⟩), .string (bs key)] h (fun v h2 => v = .tuple #[.agg (Vl.cells (getV LL.flatten key).1).toArray, .bool (getV LL.flatten key).2] ∧ Mem base h2 (S :: L) []) := by
  obtain ⟨rs, rfl, A⟩ := G.read (Mem.owni M 0 rfl)
  exact (rGet_ran M.here A (rs_le hI hn) hn).mono fun v h2 ⟨e, N⟩ => ⟨e, M.trans N⟩
theorem rSizes_st {w : Nat} {LL : List (List It)} {S : Seg} (G : RefSt w LL S) (M : Mem base h (S :: L) []) (hI : Inv LL) (hn : LL.flatten.length ≤ 900000) : Cll tab0 24 [.pointer (some ⟨w, 0, none⟩)] h (fun v h2 => ∃ S1, KNi.Own v (LL.map List.length) S1 ∧ Mem base h2 (S1 :: S :: L) []) := by
  obtain ⟨rs, rfl, A⟩ := G.read (Mem.owni M 0 rfl)
  exact (rSizes_ran M.here A (rs_le hI hn)).mono fun v h2 ⟨S1, e, N⟩ => ⟨S1, e, M.trans N⟩
theorem rRange_st {w : Nat} {LL : List (List It)} {S : Seg} {fr to : List UInt8} {most : Int} (G : RefSt w LL S) (M : Mem base h (S :: L) []) (hI : Inv LL) (hn : LL.flatten.length ≤ 900000) :
    Cll tab0 23 [.pointer (some ⟨w, 0, none⟩), .string (bs fr), .string (bs to), .int .i64 most] h (fun v h2 => ∃ S1, KIt.Own v (rangeF LL.flatten fr to most) S1 ∧ Mem base h2 (S1 :: S :: L) []) := by
  obtain ⟨rs, rfl, A⟩ := G.read (Mem.owni M 0 rfl)
  exact (rRange_ran M.here A (rs_le hI hn) hn).mono fun v h2 ⟨S1, e, N⟩ => ⟨S1, e, M.trans N⟩
theorem given_ran (W : Mem h h [] []) {v : Vl} : Cll tab0 19 [.agg (Vl.cells v).toArray] h (fun u h2 => u = .agg (Vl.cells v).toArray ∧ Mem h h2 [] []) := by
  refine Cll.code rfl rfl ?_
  refine WC.env [(0, _)] rfl ?_
  refine WC.seq (WC.run (WS.box W [_, _, _] rfl rfl rfl rfl ?_))
  intro p1 h2 M3
  refine WS.new M3 rfl ?_
  intro p4 h5 M6
  refine WS.nil [(1, _), (2, _)] rfl ?_
  refine WC.seq (WC.run (C rfl rfl (C rfl (op_ld (M6.at 1 rfl) rfl rfl) (C rfl rfl (C rfl (op_ld (M6.at 1 rfl) rfl rfl) (C rfl rfl (C rfl (op_ld (M6.at 1 rfl) rfl rfl) (WS.opV (.agg #[(.string (bs v.val)), (.int .u64 (((v.ver).toNat : Nat) : Int)), (.int .u64 (((v.lea).toNat : Nat) : Int))]) rfl rfl rfl ?_))))))))
  refine WS.st1 (M6.focus 0 rfl) [_, _, _] [_, _, _] rfl rfl rfl rfl rfl (Nat.le_of_ble_eq_true rfl) (Nat.le_of_ble_eq_true rfl) rfl rfl ?_
  intro h7 M8
  replace M8 : Mem _ _ ([(p4, _)] :: [(p1, _)] :: []) _ := M8
  refine WS.nil [(2, _)] rfl ?_
  refine WC.ret (⟨[_], (res_cellN [_, _, _] rfl (M8.at 0 rfl) (Nat.le_of_ble_eq_true rfl) rfl res_nil), ?_⟩)
  exact ⟨rfl, M8.bare.take 0⟩
def turnt (i : Nat) (a : List It) : List It := (a.take i).map (fun x => { x with ky := [116, 117, 114, 110, 101, 100] }) ++ a.drop i
theorem turnt_zero (a : List It) : turnt 0 a = a := by simp [turnt]
theorem turnt_at {i : Nat} {a : List It} {y : It} (hy : a[i]? = some y) : (turnt i a)[i]? = some y := by
  have hi := (List.getElem?_eq_some_iff.1 hy).1
  unfold turnt
  rw [List.getElem?_append_right (by simp; omega), List.getElem?_drop, ← hy]
  congr 1; simp; omega
theorem turnt_step {i : Nat} {a : List It} {y : It} (hy : a[i]? = some y) : (turnt i a).set i { y with ky := [116, 117, 114, 110, 101, 100] } = turnt (i + 1) a := by
  have hi := (List.getElem?_eq_some_iff.1 hy).1
  have e : a.drop i = y :: a.drop (i + 1) := by rw [← (List.getElem?_eq_some_iff.1 hy).2, List.getElem_cons_drop]
  unfold turnt
  rw [List.set_append_right _ _ (by simp; omega), e, List.take_add_one, hy]
  have : i - ((a.take i).map (fun x => ({ x with ky := [116, 117, 114, 110, 101, 100] } : It))).length = 0 := by simp; omega
  rw [this]; simp
theorem it_ext {x y : It} (h1 : x.ky = y.ky) (h2 : (⟨x.va, x.vn, x.ls⟩ : Vl) = ⟨y.va, y.vn, y.ls⟩) : x = y := by
  cases x; cases y; cases h1; cases h2; rfl
set_option maxRecDepth 8000 in
theorem same1_ran {ab nb : Nat} {Pb : Option Addr} {a b : List It} {Sb : Seg} (hb : ∀ h : H, (∀ p ∈ Sb, h.get p.1 = some p.2) → KIt.Sl h (.slice Pb b.length nb) b) (M : Mem base h ([(ab, ⟨KIt.flat a, 4, false⟩)] :: Sb :: L) []) (ha : a.length ≤ 1000000) : Cll tab0 22 [.slice (some ⟨ab, 0, none⟩) a.length (2 * a.length), .slice Pb b.length nb] h (fun v h2 => v = .bool (decide (a = b)) ∧ Mem base h2 L []) := by
  refine Cll.code rfl rfl ?_
  refine WC.env [(0, _), (1, _)] rfl ?_
  refine WC.seq (WC.run (C rfl rfl (WS.nil [(0, _), (1, _)] rfl ?_)))
  refine WC.seq (WC.seq (WC.run (C rfl rfl (C rfl rfl (C rfl rfl (C rfl (op_lenVS (hb _ (Mem.owni M 1 rfl)) rfl) ?_))))))
  refine WS.neqN (a := a.length) (b := (b).length) rfl rfl rfl (fun e10 => ?_) (fun e10 => ?_)
  ·
   refine WS.nil [(0, _), (1, _), (10, _)] rfl ?_
   refine WC.condT rfl (WC.seq (WC.run (C rfl rfl (WS.nil [(4, _)] rfl ?_))))
   refine WC.ret (⟨[_], (res_tmp rfl res_nil), ?_⟩)
   refine ⟨?_, (((M.focus 0 rfl).drop).focus 0 rfl).drop⟩
   rw [decide_eq_false]; rfl
   intro q; subst q
   first
   | omega
   | (simp_all)
  ·
   refine WS.nil [(0, _), (1, _), (10, _)] rfl ?_
   refine WC.condF rfl (WC.skip (WC.seq (WC.seq (WC.run (C rfl rfl (WS.nil [(0, _), (1, _), (5, _)] rfl ?_))))))
   refine WC.block ?_
   obtain ⟨L1, eL3, M2⟩ := Mem.name1 (M.bare.focus 0 rfl)
   refine WC.loop (σ := Nat) (fun (i) => [(0, (.slice (some ⟨ab, 0, none⟩) a.length (2 * a.length))), (1, (.slice Pb b.length nb)), (5, (.int .i64 ((i : Nat) : Int)))]) (fun (i) hh => Mem base hh ([(ab, ⟨KIt.flat (turnt i a), 4, false⟩)] :: L1) [] ∧ i ≤ a.length ∧ ∀ k, k < i → a[k]? = b[k]?) (fun (i) => a.length - i) (0) rfl ⟨(by rw [turnt_zero]; exact M2), ?_⟩ ?_
   · exact ⟨by omega, fun k q => by omega⟩
   ·rintro i h4 ⟨M5, ⟨hi, hE⟩⟩
    replace eL3 := eL3.symm; subst eL3
    refine WC.env [(0, _), (1, _), (5, _)] rfl ?_
    refine WC.seq (WC.seq (WC.run (C rfl rfl (C rfl rfl (C rfl rfl ?_)))))
    refine WS.lssN (a := i) (b := a.length) rfl rfl rfl (fun e14 => ?_) (fun e14 => ?_)
    ·
     obtain ⟨y, hy⟩ : ∃ y, a[i]? = some y := ⟨_, List.getElem?_eq_getElem (by omega)⟩
     have hyt := turnt_at hy
     refine WS.nil [(0, _), (1, _), (5, _), (14, _)] rfl ?_
     refine WC.condT rfl (WC.skip (WC.seq (WC.block (WC.seq (WC.seq (WC.draw M5 [] rfl ?_))))))
     intro rb6 h7 M8
     refine C rfl rfl (C rfl rfl (C rfl (op_iaV2 i rfl rfl (by exact (List.getElem?_eq_some_iff.1 hy).1)) (C rfl rfl (C rfl (op_ldH rfl (Row.ld (K := KIt) (k := 0) (M8.at 0 rfl) hyt rfl)) (C rfl rfl (C rfl rfl ?_))))))
     obtain ⟨y24, hy24⟩ : ∃ y, (b)[i]? = some y := ⟨_, List.getElem?_eq_getElem (show i < (b).length by first | omega | (simp only [List.length_drop, List.length_take, List.length_append, List.length_cons, List.length_nil, List.length_singleton]; omega) | (simp only [List.length_drop, List.length_take, List.length_append, List.length_cons, List.length_nil, List.length_singleton] at *; omega))⟩
     refine WS.iaVS (hb _ (Mem.owni M8 1 rfl)) i hy24 rfl rfl rfl rfl ?_
     intro b24_ o24_ ha24
     refine C rfl rfl (C rfl (op_ldH rfl (At.ld0 ha24 rfl)) ?_)
     refine WS.sneq (l := y.ky) (m := y24.ky) rfl rfl rfl (fun e27 => ?_) (fun e27 => ?_)
     ·
      refine C rfl rfl (WS.off rfl (WS.off rfl (WS.off rfl (WS.off rfl (WS.off rfl (WS.off rfl (WS.off rfl (WS.off rfl (WS.off rfl ?_)))))))))
      refine WS.off rfl (WS.offC rfl (WS.chkOff rfl (WS.off rfl (C rfl rfl (WS.nil [(0, _), (1, _), (5, _), (41, _)] rfl ?_)))))
      refine WC.condT rfl (WC.seq (WC.run (C rfl rfl (WS.nil [(4, _)] rfl ?_))))
      refine WC.ret (⟨[_], (res_tmp rfl res_nil), ?_⟩)
      refine ⟨?_, (((M8.bare.focus 0 rfl).drop).focus 0 rfl).drop⟩
      rw [decide_eq_false]; rfl
      intro q; subst q
      first
      | omega
      | (simp_all)
     ·
      refine C rfl rfl (C rfl rfl (C rfl rfl (C rfl (op_iaV2 i rfl rfl (by exact (List.getElem?_eq_some_iff.1 hy).1)) (C rfl rfl (C rfl (op_ldN rfl (At.ldsub (At.elem (K := KIt) (at_all (K := KIt) (M8.at 0 rfl)) hyt) (cs2 := [_, _, _]) rfl (Nat.le_of_ble_eq_true rfl))) (C rfl rfl (C rfl rfl ?_)))))))
      refine WS.iaVS (hb _ (Mem.owni M8 1 rfl)) i hy24 rfl rfl rfl rfl ?_
      intro b37_ o37_ ha37
      refine C rfl rfl (C rfl (op_ldN rfl (At.ldsub ha37 (cs2 := [_, _, _]) rfl (Nat.le_of_ble_eq_true rfl))) ?_)
      refine WS.call rfl rfl rfl (given_ran M8.here (v := (⟨y.va, y.vn, y.ls⟩ : Vl))) ?_
      rintro _ h9 ⟨rfl, N10⟩
      have M11 := M8.trans N10
      refine WS.chk rfl (op_ldN rfl (At.ldsub (ha37.mono N10.sub) (cs2 := [_, _, _]) rfl (Nat.le_of_ble_eq_true rfl))) rfl (sameV_refl rfl) ?_
      refine WS.eqqDn (p := (⟨y.va, y.vn, y.ls⟩ : Vl) = (⟨y24.va, y24.vn, y24.ls⟩ : Vl)) rfl rfl rfl (Vl_eqV (⟨y.va, y.vn, y.ls⟩ : Vl) (⟨y24.va, y24.vn, y24.ls⟩ : Vl)) (fun e40 => ?_) (fun e40 => ?_)
      ·
       refine C rfl rfl (WS.nil [(0, _), (1, _), (5, _), (41, _)] rfl ?_)
       refine WC.condT rfl (WC.seq (WC.run (C rfl rfl (WS.nil [(4, _)] rfl ?_))))
       refine WC.ret (⟨[_], (res_tmp rfl res_nil), ?_⟩)
       refine ⟨?_, (((M11.bare.focus 0 rfl).drop).focus 0 rfl).drop⟩
       rw [decide_eq_false]; rfl
       intro q; subst q
       first
       | omega
       | (simp_all)
      ·
       refine C rfl rfl (WS.nil [(0, _), (1, _), (5, _), (41, _)] rfl ?_)
       refine WC.condF rfl (WC.skip (WC.run (C rfl rfl (C rfl rfl (C rfl (op_iaV2 i rfl rfl (by exact (List.getElem?_eq_some_iff.1 hy).1)) (C rfl rfl ?_))))))
       refine WS.stE (K := KIt) (y' := { y with ky := ([116, 117, 114, 110, 101, 100]) }) (M11.bare.focus 0 rfl) hyt (by decide) rfl rfl rfl rfl rfl rfl ?_
       intro h12 M13
       replace M13 : Mem _ _ ([(ab, _)] :: Sb :: L) _ := M13
       have hye14 : ((turnt i a).set i { y with ky := ([116, 117, 114, 110, 101, 100]) })[i]? = some ({ y with ky := ([116, 117, 114, 110, 101, 100]) } : It) := List.getElem?_set_self (List.getElem?_eq_some_iff.1 hyt).1
       refine WS.nil [(0, _), (1, _), (5, _)] rfl ?_
       refine WC.run (C rfl rfl (WS.opV (.int .i64 (((i + 1) : Nat) : Int)) rfl rfl (add_i64 (a := i) (b := 1) (by omega)) (C rfl rfl (WS.nil [(0, _), (1, _), (5, _)] rfl ?_))))
       refine ⟨i + 1, rfl, ⟨(by rw [← turnt_step hy]; exact M13), ?_⟩, ?_⟩
       · exact ⟨by omega, fun k q => if c : k = i then (by subst c; rw [hy, hy24, it_ext e27 e40]) else hE k (by omega)⟩
       · simp only []; omega
    ·
     refine WS.nil [(0, _), (1, _), (5, _), (14, _)] rfl ?_
     refine WC.condF rfl (WC.exit ?_)
     refine WC.seq (WC.run (C rfl rfl (WS.nil [(4, _)] rfl ?_)))
     refine WC.ret (⟨[_], (res_tmp rfl res_nil), ?_⟩)
     exact ⟨by rw [decide_eq_true (List.ext_getElem? fun k => by by_cases c : k < i; (exact hE k c); (rw [List.getElem?_eq_none (by omega), List.getElem?_eq_none (by omega)]))]; rfl, (((M5.focus 0 rfl).drop).focus 0 rfl).drop⟩
end Go.Proofs.Ytfnhhelbegnopaa.Wt
namespace Go.Proofs.Ytfnhhelbegnopaa.Wt
open Go Go.Proofs.Ytfnhhelbegnopaa.Am Go.Proofs.Ytfnhhelbegnopaa.IrAll
open Go.Proofs.Ytfnhhelbegnopaa.Am.WS renaming op → C
open Nat renaming le_of_ble_eq_true → D
open Go.Proofs.Ytfnhhelbegnopaa.Am.WC renaming seq → G
open Go.Proofs.Ytfnhhelbegnopaa.Am.WS renaming nil → J
open Go.Proofs.Ytfnhhelbegnopaa.Am.WC renaming run → U
open List renaming length_take → X
open List renaming length_singleton → Y
open Go.Proofs.Ytfnhhelbegnopaa.Am.WS renaming call → AQ
open List renaming length_append → AX
open Go.Proofs.Ytfnhhelbegnopaa.Am.WC renaming condF → AZ
open List renaming length_cons → BQ
open List renaming length_drop → BX
open List renaming length_nil → BZ
open Go.Proofs.Ytfnhhelbegnopaa.Am.WC renaming skip → CQ
set_option linter.unusedVariables false
set_option linter.unusedSimpArgs false
variable {h base h2 : H} {L : List Seg} {R : List Nat}
set_option maxRecDepth 8000 in
theorem same0_ran {nb : Nat} {Pb : Option Addr} {b : List It} {Sb : Seg} (hb : ∀ h : H, (∀ p ∈ Sb, h.get p.1 = some p.2) → KIt.Sl h (.slice Pb b.length nb) b) (M : Mem base h (Sb :: L) []) : Cll tab0 22 [.slice none 0 0, .slice Pb b.length nb] h (fun v h2 => v = .bool (decide (([] : List It) = b)) ∧ Mem base h2 L []) := by
  have hz : ∀ h : H, (∀ p ∈ Sb, h.get p.1 = some p.2) → KIt.Sl h (.slice none ([] : List It).length 0) [] := fun _ _ => .nil
  refine Cll.code rfl rfl ?_
  refine WC.env [(0, _), (1, _)] rfl ?_
  refine G (U (C rfl rfl (J [(0, _), (1, _)] rfl ?_)))
  refine G (G (U (C rfl rfl (C rfl (op_lenVS (hz _ (Mem.owni M 0 rfl)) rfl) (C rfl rfl (C rfl (op_lenVS (hb _ (Mem.owni M 0 rfl)) rfl) ?_))))))
  refine WS.neqN (a := (([] : List It)).length) (b := (b).length) rfl rfl rfl (fun e10 => ?_) (fun e10 => ?_)
  ·
   refine J [(0, _), (1, _), (10, _)] rfl ?_
   refine WC.condT rfl (G (U (C rfl rfl (J [(4, _)] rfl ?_))))
   refine WC.ret (⟨[_], (res_tmp rfl res_nil), ?_⟩)
   refine ⟨?_, (M.focus 0 rfl).drop⟩
   rw [decide_eq_false]; rfl
   intro q; subst q
   exact e10 rfl
  ·
   refine J [(0, _), (1, _), (10, _)] rfl ?_
   refine AZ rfl (CQ (G (G (U (C rfl rfl (J [(0, _), (1, _), (5, _)] rfl ?_))))))
   refine WC.block ?_
   obtain ⟨L1, eL3, M2⟩ := Mem.name M.bare
   refine WC.loop (σ := Nat) (fun (i) => [(0, (.slice none ([] : List It).length 0)), (1, (.slice Pb b.length nb)), (5, (.int .i64 ((i : Nat) : Int)))]) (fun (i) hh => Mem base hh (L1) [] ∧ True) (fun (i) => 0) (0) rfl ⟨M2, ?_⟩ ?_
   · trivial
   ·rintro i h4 ⟨M5, _⟩
    replace eL3 := eL3.symm; subst eL3
    refine WC.env [(0, _), (1, _), (5, _)] rfl ?_
    refine G (G (U (C rfl rfl (C rfl rfl (C rfl (op_lenVS (hz _ (Mem.owni M5 0 rfl)) rfl) ?_)))))
    refine WS.lssN (a := i) (b := (([] : List It)).length) rfl rfl rfl (fun e14 => ?_) (fun e14 => ?_)
    ·
     exact absurd e14 (by simp)
    ·
     refine J [(0, _), (1, _), (5, _), (14, _)] rfl ?_
     refine AZ rfl (WC.exit ?_)
     refine G (U (C rfl rfl (J [(4, _)] rfl ?_)))
     refine WC.ret (⟨[_], (res_tmp rfl res_nil), ?_⟩)
     refine ⟨?_, (M5.focus 0 rfl).drop⟩
     rw [decide_eq_true]; rfl
     exact (List.eq_nil_of_length_eq_zero (by simpa using e10.symm)).symm
theorem same_eq {V V2 : Value} {l : List It} {S S2 : Seg} (O : KIt.Own V l S) (O2 : KIt.Own V2 l S2) (M : Mem base h (S :: S2 :: L) []) (hl : l.length ≤ 1000000) : Cll tab0 22 [V, V2] h (fun v h2 => v = .bool true ∧ Mem base h2 L []) := by
  obtain ⟨P2, rfl⟩ := Row.Own.shape O2
  have hb : ∀ h : H, (∀ p ∈ S2, h.get p.1 = some p.2) → KIt.Sl h (.slice P2 l.length (2 * l.length)) l := fun h hh => O2.sl hh
  cases O with
  | nil => exact (same0_ran hb (M.perm (by simp))).mono fun v h2 ⟨e, N⟩ => ⟨by rw [e, decide_eq_true rfl], N⟩
  | row p l h => exact (same1_ran hb M hl).mono fun v h2 ⟨e, N⟩ => ⟨by rw [e, decide_eq_true rfl], N⟩
theorem rangeF_len (F : List It) (fr to : List UInt8) (most : Int) : (rangeF F fr to most).length ≤ F.length := by
  rw [rangeF_ok2, X]; have := List.length_filter_le (ok2 fr to) F; omega
theorem sum_take {l : List Nat} {k y : Nat} (hy : l[k]? = some y) : (l.take (k + 1)).sum = (l.take k).sum + y := by
  rw [List.take_add_one, hy]; simp
theorem sum_take_le (l : List Nat) (k : Nat) : (l.take k).sum ≤ l.sum := by
  have : l.sum = (l.take k).sum + (l.drop k).sum := by rw [← List.sum_append, List.take_append_drop]
  omega
theorem sizes_one {A : List (List It)} (hA : Inv A) {k y : Nat} (hy : (A.map List.length)[k]? = some y) : 1 ≤ y ∧ y ≤ 8 := by
  obtain ⟨g, hg, rfl⟩ := List.mem_map.1 (List.mem_of_getElem? hy)
  have := hA.1 g hg; exact ⟨List.length_pos_iff.2 this.1, this.2⟩
set_option maxRecDepth 8000 in
set_option maxHeartbeats 2000000 in
theorem law_PagesPlays (W : Mem h h [] []) {l : List AcI} {u0 : Value} (l0 : laySl (fun _ y cs => cs = KAcI.cells y) 7 h l [u0]) (k0 : l.length < 9223372036854775808 ∧ ∀ x ∈ l, x.ky.length < 9223372036854775808 ∧ x.to.length < 9223372036854775808 ∧ x.va.length < 9223372036854775808) : Cll tab0 4 [u0] h (fun v _ => v = .bool true) := by
  have hbig := k0.1
  obtain ⟨V0, hV, S0⟩ := l0
  cases hV
  have A : KAcI.Sl h u0 l := SlL.sl S0
  obtain ⟨P, c, rfl⟩ := A.shape
  refine Cll.code rfl rfl ?_
  refine WC.env [(0, _)] rfl ?_
  refine G (U (C rfl rfl (J [(0, _)] rfl ?_)))
  refine G (G (U (C rfl rfl ?_)))
  refine AQ rfl rfl rfl (great15_ran W.here (A.mono W.sub) hbig) ?_
  rintro _ h1 ⟨g16, rfl, hg16, N2⟩
  have M3 := W.trans N2
  refine J [(0, _), (16, _)] rfl ?_
  cases hb1 : g16
  ·
   refine AZ rfl (CQ (G (U ?_)))
   have hsml : l.length ≤ 200 := hg16 (by assumption)
   refine AQ rfl rfl rfl (New_st M3.bare) ?_
   rintro _ h4 ⟨p18, S6, G7, rfl, M5⟩
   replace M5 : Mem _ _ (S6 :: []) _ := M5
   refine C rfl rfl (J [(0, _), (3, _)] rfl ?_)
   refine G (U (WS.opV (.agg #[(.slice none 0 0)]) rfl rfl rfl ?_))
   refine WS.box M5 [_] rfl rfl rfl rfl ?_
   intro p8 h9 M10
   refine C rfl rfl (J [(0, _), (3, _), (4, _)] rfl ?_)
   refine G (G (U (C rfl rfl (J [(0, _), (3, _), (4, _), (5, _)] rfl ?_))))
   refine WC.block ?_
   obtain ⟨L11, eL13, M12⟩ := Mem.name2 ((M10.bare.focus 0 rfl).focus 1 rfl)
   refine WC.loop (σ := Seg × Seg × Nat) (fun ((S_, T_, i)) => [(0, (.slice P l.length c)), (3, (.pointer (some ⟨p18, 0, none⟩))), (4, (.pointer (some ⟨p8, 0, none⟩))), (5, (.int .i64 ((i : Nat) : Int)))]) (fun ((S_, T_, i)) hh => Mem h hh (S_ :: T_ :: L11) [] ∧ PgSt p18 (madeL (l.take i)) S_ ∧ RefSt p8 (madeL (l.take i)) T_ ∧ i ≤ l.length) (fun ((S_, T_, i)) => l.length - i) (S6, _, 0) rfl ⟨M12, ?_⟩ ?_
   · exact ⟨by assumption, RefSt.nil _, by omega⟩
   ·rintro ⟨S_, T_, i⟩ h14 ⟨M15, ⟨G_, H_, hi⟩⟩
    replace eL13 := eL13.symm; subst eL13
    refine WC.env [(0, _), (3, _), (4, _), (5, _)] rfl ?_
    have hN_ : (madeL (l.take i)).flatten.length ≤ i := Nat.le_trans (made_inv (l.take i)).2 (by rw [X]; omega)
    refine G (G (U (C rfl rfl (C rfl rfl (C rfl (op_lenVS A rfl) ?_)))))
    refine WS.lssN (a := i) (b := (l).length) rfl rfl rfl (fun e24 => ?_) (fun e24 => ?_)
    ·
     refine J [(0, _), (3, _), (4, _), (5, _), (24, _)] rfl ?_
     refine WC.condT rfl (CQ (G (WC.block (G (U (C rfl rfl (C rfl rfl ?_)))))))
     obtain ⟨y29, hy29⟩ : ∃ y, (l)[i]? = some y := ⟨_, List.getElem?_eq_getElem (show i < (l).length by first | omega | (simp only [BX, X, AX, BQ, BZ, Y]; omega) | (simp only [BX, X, AX, BQ, BZ, Y] at *; omega))⟩
     refine WS.iaVS A i hy29 rfl rfl rfl rfl ?_
     intro b29_ o29_ ha29
     refine C rfl (op_ldAt rfl (ha29.mono M15.sub) rfl) ?_
     refine WS.new M15 rfl ?_
     intro p16 h17 M18
     refine WS.st1 (M18.focus 0 rfl) [_, _, _, _, _, _, _] [_, _, _, _, _, _, _] rfl rfl rfl rfl rfl (D rfl) (D rfl) rfl rfl ?_
     intro h19 M20
     replace M20 : Mem _ _ ([(p16, _)] :: S_ :: T_ :: []) _ := M20
     refine J [(0, _), (3, _), (4, _), (5, _), (6, _)] rfl ?_
     refine G (U (WS.new M20 rfl ?_))
     intro p21 h22 M23
     refine J [(0, _), (3, _), (4, _), (5, _), (6, _), (7, _)] rfl ?_
     refine G (U (WS.new M23 rfl ?_))
     intro p24 h25 M26
     refine J [(0, _), (3, _), (4, _), (5, _), (6, _), (7, _), (8, _)] rfl ?_
     refine G (U (C rfl rfl (C rfl rfl (J [(0, _), (3, _), (4, _), (5, _), (6, _), (7, _), (8, _), (9, _), (10, _)] rfl ?_))))
     refine G (G (U (C rfl rfl (C rfl (op_ld (M26.at 2 rfl) rfl rfl) (J [(0, _), (3, _), (4, _), (5, _), (6, _), (7, _), (8, _), (9, _), (10, _), (32, _)] rfl ?_)))))
     refine WC.block (G (U (WS.eqlN (a := (y29.d).toNat) (b := 0) rfl rfl rfl (fun e34 => ?_) (fun e34 => ?_))))
     ·
      refine C rfl rfl (J [(0, _), (3, _), (4, _), (5, _), (6, _), (7, _), (8, _), (9, _), (10, _), (32, _), (33, _)] rfl ?_)
      refine WC.condT rfl (G (U (C rfl rfl (C rfl rfl (C rfl (op_ld (M26.at 2 rfl) rfl rfl) (C rfl rfl (C rfl (op_lds [_, _, _] (M26.at 2 rfl) rfl (D rfl) rfl) ?_)))))))
      refine AQ rfl rfl rfl (Put_ran (key := y29.ky) (v := (⟨y29.va, y29.vn, y29.ls⟩ : Vl)) G_ (M26.bare.focus 3 rfl) (made_inv (l.take i)).1 (Nat.le_trans hN_ (by omega))) ?_
      rintro _ h27 ⟨rfl, S29, G30, M28⟩
      replace M28 : Mem _ _ (S29 :: [(p24, _)] :: [(p21, _)] :: [(p16, _)] :: T_ :: []) _ := M28
      have I31 : Inv (putL (madeL (l.take i)) (⟨y29.ky, y29.va, y29.vn, y29.ls⟩ : It)) := (flat_put (made_inv (l.take i)).1).2
      have N32 := put_lenB (it := (⟨y29.ky, y29.va, y29.vn, y29.ls⟩ : It)) (made_inv (l.take i)).1 hN_
      refine C rfl rfl (C rfl rfl (C rfl rfl ?_))
      refine WS.st1 (M28.focus 2 rfl) [_, _, _] [_, _, _] rfl rfl rfl rfl rfl (D rfl) (D rfl) rfl rfl ?_
      intro h33 M34
      replace M34 : Mem _ _ ([(p21, _)] :: S29 :: [(p24, _)] :: [(p16, _)] :: T_ :: []) _ := M34
      refine C rfl rfl (J [(0, _), (3, _), (4, _), (5, _), (6, _), (7, _), (8, _), (9, _)] rfl ?_)
      refine WC.draw M34 [] rfl ?_
      intro rb35 h36 M37
      refine C rfl rfl (C rfl rfl (C rfl (op_ld (M37.at 3 rfl) rfl rfl) (C rfl rfl (C rfl (op_lds [_, _, _] (M37.at 3 rfl) rfl (D rfl) rfl) ?_))))
      refine AQ rfl rfl rfl (given_ran M37.here (v := (⟨y29.va, y29.vn, y29.ls⟩ : Vl))) ?_
      rintro _ h38 ⟨rfl, N39⟩
      have M40 := M37.trans N39
      refine WS.chk rfl (op_ld (M40.at 3 rfl) rfl rfl) rfl (sameV_refl rfl) ?_
      refine AQ rfl rfl rfl (rPut_st (key := y29.ky) (v := (⟨y29.va, y29.vn, y29.ls⟩ : Vl)) H_ (M40.bare.focus 4 rfl) (made_inv (l.take i)).1 (Nat.le_trans hN_ (by omega))) ?_
      rintro _ h41 ⟨rfl, S43, G44, M42⟩
      replace M42 : Mem _ _ (S43 :: [(p21, _)] :: S29 :: [(p24, _)] :: [(p16, _)] :: []) _ := M42
      have I45 : Inv (putL (madeL (l.take i)) (⟨y29.ky, y29.va, y29.vn, y29.ls⟩ : It)) := (flat_put (made_inv (l.take i)).1).2
      have N46 := put_lenB (it := (⟨y29.ky, y29.va, y29.vn, y29.ls⟩ : It)) (made_inv (l.take i)).1 hN_
      refine C rfl rfl (C rfl rfl (C rfl rfl ?_))
      refine WS.st1 (M42.focus 3 rfl) [_, _, _] [_, _, _] rfl rfl rfl rfl rfl (D rfl) (D rfl) rfl rfl ?_
      intro h47 M48
      replace M48 : Mem _ _ ([(p24, _)] :: S43 :: [(p21, _)] :: S29 :: [(p16, _)] :: []) _ := M48
      refine C rfl rfl (J [(0, _), (3, _), (4, _), (5, _), (7, _), (8, _), (9, _), (10, _)] rfl ?_)
      refine G (U ?_)
      have G3 : PgSt p18 (madeL (l.take (i + 1))) S29 := by rw [made_snoc hy29]; unfold stepL; first | (rw [if_pos e34]; exact G30) | (rw [if_neg e34, if_pos e55]; exact G30) | (rw [if_neg e34, if_neg e55]; exact G30)
      have H3 : RefSt p8 (madeL (l.take (i + 1))) S43 := by rw [made_snoc hy29]; unfold stepL; first | (rw [if_pos e34]; exact G44) | (rw [if_neg e34, if_pos e55]; exact G44) | (rw [if_neg e34, if_neg e55]; exact G44)
      have hN3 : (madeL (l.take (i + 1))).flatten.length ≤ i + 1 := Nat.le_trans (made_inv (l.take (i + 1))).2 (by rw [X]; omega)
      refine C rfl rfl ?_
      refine AQ rfl rfl rfl (Sizes_st  G3 (M48.bare.bare.focus 3 rfl) (made_inv (l.take (i + 1))).1 (Nat.le_trans hN3 (by omega))) ?_
      rintro V53 h49 ⟨S51, O52, M50⟩
      obtain ⟨P54, rfl⟩ := Row.Own.shape O52
      replace M50 : Mem _ _ (S51 :: S29 :: [(p24, _)] :: S43 :: [(p21, _)] :: [(p16, _)] :: []) _ := M50
      refine C rfl rfl (J [(0, _), (3, _), (4, _), (5, _), (7, _), (8, _), (9, _), (10, _), (11, _)] rfl ?_)
      refine G (U (C rfl rfl ?_))
      refine AQ rfl rfl rfl (rSizes_st  H3 (M50.bare.focus 3 rfl) (made_inv (l.take (i + 1))).1 (Nat.le_trans hN3 (by omega))) ?_
      rintro V59 h55 ⟨S57, O58, M56⟩
      obtain ⟨P60, rfl⟩ := Row.Own.shape O58
      replace M56 : Mem _ _ (S57 :: S43 :: S51 :: S29 :: [(p24, _)] :: [(p21, _)] :: [(p16, _)] :: []) _ := M56
      refine C rfl rfl (J [(0, _), (3, _), (4, _), (5, _), (7, _), (8, _), (9, _), (10, _), (11, _), (12, _)] rfl ?_)
      refine G (U (C rfl rfl (J [(0, _), (3, _), (4, _), (5, _), (7, _), (8, _), (9, _), (10, _), (11, _), (12, _), (13, _)] rfl ?_)))
      refine G (G (WC.draw M56 [] rfl ?_))
      intro rb61 h62 M63
      refine C rfl (op_lds [_, _, _] (M63.at 5 rfl) rfl (D rfl) rfl) (C rfl (op_lds [_, _, _] (M63.at 4 rfl) rfl (D rfl) rfl) ?_)
      refine AQ rfl rfl rfl (given_ran M63.here (v := (⟨((getV (madeL (l.take i)).flatten y29.ky).1).val, (((getV (madeL (l.take i)).flatten y29.ky).1).ver), (((getV (madeL (l.take i)).flatten y29.ky).1).lea)⟩ : Vl))) ?_
      rintro _ h64 ⟨rfl, N65⟩
      have M66 := M63.trans N65
      refine WS.chk rfl (op_lds [_, _, _] (M66.at 4 rfl) rfl (D rfl) rfl) rfl (sameV_refl rfl) ?_
      refine WS.eqqDn (p := (⟨(((getV (madeL (l.take i)).flatten y29.ky).1).val), (((getV (madeL (l.take i)).flatten y29.ky).1).ver), (((getV (madeL (l.take i)).flatten y29.ky).1).lea)⟩ : Vl) = (⟨(((getV (madeL (l.take i)).flatten y29.ky).1).val), (((getV (madeL (l.take i)).flatten y29.ky).1).ver), (((getV (madeL (l.take i)).flatten y29.ky).1).lea)⟩ : Vl)) rfl rfl rfl (Vl_eqV _ _) (fun e113 => ?_) (fun e113 => ?_)
      ·
       exact absurd rfl e113
      ·
       refine C rfl rfl (C rfl rfl (C rfl rfl (WS.opV (.bool false) rfl rfl (by cases ((getV (madeL (l.take i)).flatten y29.ky).2) <;> rfl) (C rfl rfl (C rfl rfl (C rfl rfl (C rfl (op_lenVO O52 rfl) (C rfl rfl (C rfl (op_lenVO O58 rfl) ?_)))))))))
       refine WS.neqN (a := (((madeL (l.take (i + 1))).map List.length)).length) (b := (((madeL (l.take (i + 1))).map List.length)).length) rfl rfl rfl (fun e124 => ?_) (fun e124 => ?_)
       ·
        exact absurd rfl e124
       ·
        refine C rfl rfl (J [(0, _), (3, _), (4, _), (5, _), (11, _), (12, _), (13, _), (125, _)] rfl ?_)
        refine AZ rfl (CQ (G (G (U (C rfl rfl (J [(0, _), (3, _), (4, _), (5, _), (11, _), (12, _), (13, _), (14, _)] rfl ?_))))))
        refine WC.block ?_
        have htot : (((madeL (l.take (i + 1))).map List.length)).sum = (madeL (l.take (i + 1))).flatten.length := by rw [← List.length_flatten]
        have hstl := sum_take_le (((madeL (l.take (i + 1))).map List.length))
        have hzl : (((madeL (l.take (i + 1))).map List.length)).length ≤ 400 := by have := pages_le (made_inv (l.take (i + 1))).1; rw [List.length_map]; omega
        obtain ⟨L67, eL69, M68⟩ := Mem.name M66.bare.bare
        refine WC.loop (σ := Nat × Nat) (fun ((n, k)) => [(0, (.slice P l.length c)), (3, (.pointer (some ⟨p18, 0, none⟩))), (4, (.pointer (some ⟨p8, 0, none⟩))), (5, (.int .i64 ((i : Nat) : Int))), (11, (.slice P54 (((madeL (l.take (i + 1))).map List.length)).length (2 * (((madeL (l.take (i + 1))).map List.length)).length))), (12, (.slice P60 (((madeL (l.take (i + 1))).map List.length)).length (2 * (((madeL (l.take (i + 1))).map List.length)).length))), (13, (.int .i64 ((n : Nat) : Int))), (14, (.int .i64 ((k : Nat) : Int)))]) (fun ((n, k)) hh => Mem h hh (L67) [] ∧ n = (((madeL (l.take (i + 1))).map List.length).take k).sum ∧ k ≤ (((madeL (l.take (i + 1))).map List.length)).length) (fun ((n, k)) => ((madeL (l.take (i + 1))).map List.length).length - k) (0, 0) rfl ⟨M68, ?_⟩ ?_
        · exact ⟨by simp, by omega⟩
        ·rintro ⟨n, k⟩ h70 ⟨M71, ⟨hn, hk⟩⟩
         replace eL69 := eL69.symm; subst eL69
         refine WC.env [(0, _), (3, _), (4, _), (5, _), (11, _), (12, _), (13, _), (14, _)] rfl ?_
         have hstk := hstl k
         refine G (G (U (C rfl rfl (C rfl rfl (C rfl (op_lenVO O52 rfl) ?_)))))
         refine WS.lssN (a := k) (b := (((madeL (l.take (i + 1))).map List.length)).length) rfl rfl rfl (fun e129 => ?_) (fun e129 => ?_)
         ·
          refine J [(0, _), (3, _), (4, _), (5, _), (11, _), (12, _), (13, _), (14, _), (129, _)] rfl ?_
          refine WC.condT rfl (CQ (G (WC.block (G (G (WC.draw M71 [] rfl ?_))))))
          intro rb72 h73 M74
          refine C rfl rfl (C rfl rfl ?_)
          obtain ⟨y134, hy134⟩ : ∃ y, (((madeL (l.take (i + 1))).map List.length))[k]? = some y := ⟨_, List.getElem?_eq_getElem (show k < (((madeL (l.take (i + 1))).map List.length)).length by first | omega | (simp only [BX, X, AX, BQ, BZ, Y]; omega) | (simp only [BX, X, AX, BQ, BZ, Y] at *; omega))⟩
          have hy8 := sizes_one (made_inv (l.take (i + 1))).1 hy134
          refine WS.iaVS (Row.Own.sl O52 (Mem.owni M74 2 rfl)) k hy134 rfl rfl rfl rfl ?_
          intro b134_ o134_ ha134
          refine C rfl (op_ldH rfl (At.ld0 ha134 rfl)) (C rfl rfl (C rfl rfl ?_))
          refine WS.iaVS (Row.Own.sl O58 (Mem.owni M74 0 rfl)) k hy134 rfl rfl rfl rfl ?_
          intro b138_ o138_ ha138
          refine C rfl (op_ldH rfl (At.ld0 ha138 rfl)) ?_
          refine WS.neqN (a := y134) (b := y134) rfl rfl rfl (fun e140 => ?_) (fun e140 => ?_)
          ·
           exact absurd rfl e140
          ·
           refine J [(0, _), (3, _), (4, _), (5, _), (11, _), (12, _), (13, _), (14, _), (140, _)] rfl ?_
           refine AZ rfl (CQ (U (C rfl rfl (C rfl rfl (C rfl rfl ?_)))))
           refine WS.iaVS (Row.Own.sl O52 (Mem.owni M74.bare 2 rfl)) k hy134 rfl rfl rfl rfl ?_
           intro b144_ o144_ ha144
           refine C rfl (op_ldH rfl (At.ld0 ha144 rfl)) (WS.opV (.int .i64 (((n + y134) : Nat) : Int)) rfl rfl (add_i64 (a := n) (b := y134) (by omega)) (C rfl rfl (J [(0, _), (3, _), (4, _), (5, _), (11, _), (12, _), (13, _), (14, _)] rfl ?_)))
           refine U (C rfl rfl (WS.opV (.int .i64 (((k + 1) : Nat) : Int)) rfl rfl (add_i64 (a := k) (b := 1) (by omega)) (C rfl rfl (J [(0, _), (3, _), (4, _), (5, _), (11, _), (12, _), (13, _), (14, _)] rfl ?_))))
           refine ⟨((n + y134), k + 1), rfl, ⟨((((((((M74.bare.bare.focus 6 rfl).focus 6 rfl).focus 6 rfl).focus 6 rfl).focus 6 rfl).focus 6 rfl).focus 6 rfl).take 7), ?_⟩, ?_⟩
           · exact ⟨by rw [sum_take hy134, hn], by omega⟩
           · simp only []; omega
         ·
          refine J [(0, _), (3, _), (4, _), (5, _), (11, _), (12, _), (13, _), (14, _), (129, _)] rfl ?_
          refine AZ rfl (WC.exit ?_)
          refine G (U ?_)
          have hsum : n = (madeL (l.take (i + 1))).flatten.length := by rw [hn, List.take_of_length_le (by omega), htot]
          refine C rfl rfl ?_
          refine AQ rfl rfl rfl (Len_st G3 (M71.bare.focus 3 rfl)) ?_
          rintro _ h75 ⟨rfl, M76⟩
          replace M76 : Mem _ _ (S29 :: S57 :: S43 :: S51 :: [(p24, _)] :: [(p21, _)] :: [(p16, _)] :: []) _ := M76
          refine C rfl rfl ?_
          refine WS.neqN (a := (madeL (l.take (i + 1))).flatten.length) (b := n) rfl rfl rfl (fun e150 => ?_) (fun e150 => ?_)
          ·
           exact absurd e150 (by omega)
          ·
           refine J [(0, _), (3, _), (4, _), (5, _), (150, _)] rfl ?_
           refine AZ rfl (CQ (U (C rfl rfl (WS.opV (.int .i64 (((i + 1) : Nat) : Int)) rfl rfl (add_i64 (a := i) (b := 1) (by omega)) (C rfl rfl (J [(0, _), (3, _), (4, _), (5, _)] rfl ?_))))))
           refine ⟨(S29, S43, i + 1), rfl, ⟨(((M76.bare.focus 2 rfl).focus 1 rfl).take 2), ?_⟩, ?_⟩
           · exact ⟨G3, H3, by omega⟩
           · simp only []; omega
     ·
      refine C rfl rfl (J [(0, _), (3, _), (4, _), (5, _), (6, _), (7, _), (8, _), (9, _), (10, _), (32, _), (33, _)] rfl ?_)
      refine AZ rfl (G (U (WS.eqlN (a := (y29.d).toNat) (b := 1) rfl rfl rfl (fun e55 => ?_) (fun e55 => ?_))))
      ·
       refine C rfl rfl (J [(0, _), (3, _), (4, _), (5, _), (6, _), (7, _), (8, _), (9, _), (10, _), (32, _), (54, _)] rfl ?_)
       refine WC.condT rfl (G (U (C rfl rfl (C rfl rfl (C rfl (op_ld (M26.at 2 rfl) rfl rfl) ?_)))))
       refine AQ rfl rfl rfl (Delete_ran (key := y29.ky) G_ (M26.bare.focus 3 rfl) (made_inv (l.take i)).1 (Nat.le_trans hN_ (by omega))) ?_
       rintro _ h77 ⟨rfl, S79, G80, M78⟩
       replace M78 : Mem _ _ (S79 :: [(p24, _)] :: [(p21, _)] :: [(p16, _)] :: T_ :: []) _ := M78
       have I81 : Inv (delL (madeL (l.take i)) y29.ky) := (flat_del (made_inv (l.take i)).1).2
       have N82 := del_lenB (key := y29.ky) (made_inv (l.take i)).1 hN_
       refine C rfl rfl (C rfl rfl (C rfl rfl ?_))
       refine WS.st1 (M78.focus 2 rfl) [_, _, _] [_, _, _] rfl rfl rfl rfl rfl (D rfl) (D rfl) rfl rfl ?_
       intro h83 M84
       replace M84 : Mem _ _ ([(p21, _)] :: S79 :: [(p24, _)] :: [(p16, _)] :: T_ :: []) _ := M84
       refine C rfl rfl (J [(0, _), (3, _), (4, _), (5, _), (6, _), (7, _), (8, _), (9, _)] rfl ?_)
       refine U (C rfl rfl (C rfl rfl (C rfl (op_ld (M84.at 3 rfl) rfl rfl) ?_)))
       refine AQ rfl rfl rfl (rDelete_st (key := y29.ky) H_ (M84.bare.focus 4 rfl) (made_inv (l.take i)).1 (Nat.le_trans hN_ (by omega))) ?_
       rintro _ h85 ⟨rfl, S87, G88, M86⟩
       replace M86 : Mem _ _ (S87 :: [(p21, _)] :: S79 :: [(p24, _)] :: [(p16, _)] :: []) _ := M86
       have I89 : Inv (delL (madeL (l.take i)) y29.ky) := (flat_del (made_inv (l.take i)).1).2
       have N90 := del_lenB (key := y29.ky) (made_inv (l.take i)).1 hN_
       refine C rfl rfl (C rfl rfl (C rfl rfl ?_))
       refine WS.st1 (M86.focus 3 rfl) [_, _, _] [_, _, _] rfl rfl rfl rfl rfl (D rfl) (D rfl) rfl rfl ?_
       intro h91 M92
       replace M92 : Mem _ _ ([(p24, _)] :: S87 :: [(p21, _)] :: S79 :: [(p16, _)] :: []) _ := M92
       refine C rfl rfl (J [(0, _), (3, _), (4, _), (5, _), (7, _), (8, _), (9, _), (10, _)] rfl ?_)
       refine G (U ?_)
       have G3 : PgSt p18 (madeL (l.take (i + 1))) S79 := by rw [made_snoc hy29]; unfold stepL; first | (rw [if_pos e34]; exact G80) | (rw [if_neg e34, if_pos e55]; exact G80) | (rw [if_neg e34, if_neg e55]; exact G80)
       have H3 : RefSt p8 (madeL (l.take (i + 1))) S87 := by rw [made_snoc hy29]; unfold stepL; first | (rw [if_pos e34]; exact G88) | (rw [if_neg e34, if_pos e55]; exact G88) | (rw [if_neg e34, if_neg e55]; exact G88)
       have hN3 : (madeL (l.take (i + 1))).flatten.length ≤ i + 1 := Nat.le_trans (made_inv (l.take (i + 1))).2 (by rw [X]; omega)
       refine C rfl rfl ?_
       refine AQ rfl rfl rfl (Sizes_st  G3 (M92.bare.focus 3 rfl) (made_inv (l.take (i + 1))).1 (Nat.le_trans hN3 (by omega))) ?_
       rintro V97 h93 ⟨S95, O96, M94⟩
       obtain ⟨P98, rfl⟩ := Row.Own.shape O96
       replace M94 : Mem _ _ (S95 :: S79 :: [(p24, _)] :: S87 :: [(p21, _)] :: [(p16, _)] :: []) _ := M94
       refine C rfl rfl (J [(0, _), (3, _), (4, _), (5, _), (7, _), (8, _), (9, _), (10, _), (11, _)] rfl ?_)
       refine G (U (C rfl rfl ?_))
       refine AQ rfl rfl rfl (rSizes_st  H3 (M94.bare.focus 3 rfl) (made_inv (l.take (i + 1))).1 (Nat.le_trans hN3 (by omega))) ?_
       rintro V103 h99 ⟨S101, O102, M100⟩
       obtain ⟨P104, rfl⟩ := Row.Own.shape O102
       replace M100 : Mem _ _ (S101 :: S87 :: S95 :: S79 :: [(p24, _)] :: [(p21, _)] :: [(p16, _)] :: []) _ := M100
       refine C rfl rfl (J [(0, _), (3, _), (4, _), (5, _), (7, _), (8, _), (9, _), (10, _), (11, _), (12, _)] rfl ?_)
       refine G (U (C rfl rfl (J [(0, _), (3, _), (4, _), (5, _), (7, _), (8, _), (9, _), (10, _), (11, _), (12, _), (13, _)] rfl ?_)))
       refine G (G (WC.draw M100 [] rfl ?_))
       intro rb105 h106 M107
       refine C rfl (op_lds [_, _, _] (M107.at 5 rfl) rfl (D rfl) rfl) (C rfl (op_lds [_, _, _] (M107.at 4 rfl) rfl (D rfl) rfl) ?_)
       refine AQ rfl rfl rfl (given_ran M107.here (v := (⟨((getV (madeL (l.take i)).flatten y29.ky).1).val, (((getV (madeL (l.take i)).flatten y29.ky).1).ver), (((getV (madeL (l.take i)).flatten y29.ky).1).lea)⟩ : Vl))) ?_
       rintro _ h108 ⟨rfl, N109⟩
       have M110 := M107.trans N109
       refine WS.chk rfl (op_lds [_, _, _] (M110.at 4 rfl) rfl (D rfl) rfl) rfl (sameV_refl rfl) ?_
       refine WS.eqqDn (p := (⟨(((getV (madeL (l.take i)).flatten y29.ky).1).val), (((getV (madeL (l.take i)).flatten y29.ky).1).ver), (((getV (madeL (l.take i)).flatten y29.ky).1).lea)⟩ : Vl) = (⟨(((getV (madeL (l.take i)).flatten y29.ky).1).val), (((getV (madeL (l.take i)).flatten y29.ky).1).ver), (((getV (madeL (l.take i)).flatten y29.ky).1).lea)⟩ : Vl)) rfl rfl rfl (Vl_eqV _ _) (fun e113 => ?_) (fun e113 => ?_)
       ·
        exact absurd rfl e113
       ·
        refine C rfl rfl (C rfl rfl (C rfl rfl (WS.opV (.bool false) rfl rfl (by cases ((getV (madeL (l.take i)).flatten y29.ky).2) <;> rfl) (C rfl rfl (C rfl rfl (C rfl rfl (C rfl (op_lenVO O96 rfl) (C rfl rfl (C rfl (op_lenVO O102 rfl) ?_)))))))))
        refine WS.neqN (a := (((madeL (l.take (i + 1))).map List.length)).length) (b := (((madeL (l.take (i + 1))).map List.length)).length) rfl rfl rfl (fun e124 => ?_) (fun e124 => ?_)
        ·
         exact absurd rfl e124
        ·
         refine C rfl rfl (J [(0, _), (3, _), (4, _), (5, _), (11, _), (12, _), (13, _), (125, _)] rfl ?_)
         refine AZ rfl (CQ (G (G (U (C rfl rfl (J [(0, _), (3, _), (4, _), (5, _), (11, _), (12, _), (13, _), (14, _)] rfl ?_))))))
         refine WC.block ?_
         have htot : (((madeL (l.take (i + 1))).map List.length)).sum = (madeL (l.take (i + 1))).flatten.length := by rw [← List.length_flatten]
         have hstl := sum_take_le (((madeL (l.take (i + 1))).map List.length))
         have hzl : (((madeL (l.take (i + 1))).map List.length)).length ≤ 400 := by have := pages_le (made_inv (l.take (i + 1))).1; rw [List.length_map]; omega
         obtain ⟨L111, eL113, M112⟩ := Mem.name M110.bare.bare
         refine WC.loop (σ := Nat × Nat) (fun ((n, k)) => [(0, (.slice P l.length c)), (3, (.pointer (some ⟨p18, 0, none⟩))), (4, (.pointer (some ⟨p8, 0, none⟩))), (5, (.int .i64 ((i : Nat) : Int))), (11, (.slice P98 (((madeL (l.take (i + 1))).map List.length)).length (2 * (((madeL (l.take (i + 1))).map List.length)).length))), (12, (.slice P104 (((madeL (l.take (i + 1))).map List.length)).length (2 * (((madeL (l.take (i + 1))).map List.length)).length))), (13, (.int .i64 ((n : Nat) : Int))), (14, (.int .i64 ((k : Nat) : Int)))]) (fun ((n, k)) hh => Mem h hh (L111) [] ∧ n = (((madeL (l.take (i + 1))).map List.length).take k).sum ∧ k ≤ (((madeL (l.take (i + 1))).map List.length)).length) (fun ((n, k)) => ((madeL (l.take (i + 1))).map List.length).length - k) (0, 0) rfl ⟨M112, ?_⟩ ?_
         · exact ⟨by simp, by omega⟩
         ·rintro ⟨n, k⟩ h114 ⟨M115, ⟨hn, hk⟩⟩
          replace eL113 := eL113.symm; subst eL113
          refine WC.env [(0, _), (3, _), (4, _), (5, _), (11, _), (12, _), (13, _), (14, _)] rfl ?_
          have hstk := hstl k
          refine G (G (U (C rfl rfl (C rfl rfl (C rfl (op_lenVO O96 rfl) ?_)))))
          refine WS.lssN (a := k) (b := (((madeL (l.take (i + 1))).map List.length)).length) rfl rfl rfl (fun e129 => ?_) (fun e129 => ?_)
          ·
           refine J [(0, _), (3, _), (4, _), (5, _), (11, _), (12, _), (13, _), (14, _), (129, _)] rfl ?_
           refine WC.condT rfl (CQ (G (WC.block (G (G (WC.draw M115 [] rfl ?_))))))
           intro rb116 h117 M118
           refine C rfl rfl (C rfl rfl ?_)
           obtain ⟨y134, hy134⟩ : ∃ y, (((madeL (l.take (i + 1))).map List.length))[k]? = some y := ⟨_, List.getElem?_eq_getElem (show k < (((madeL (l.take (i + 1))).map List.length)).length by first | omega | (simp only [BX, X, AX, BQ, BZ, Y]; omega) | (simp only [BX, X, AX, BQ, BZ, Y] at *; omega))⟩
           have hy8 := sizes_one (made_inv (l.take (i + 1))).1 hy134
           refine WS.iaVS (Row.Own.sl O96 (Mem.owni M118 2 rfl)) k hy134 rfl rfl rfl rfl ?_
           intro b134_ o134_ ha134
           refine C rfl (op_ldH rfl (At.ld0 ha134 rfl)) (C rfl rfl (C rfl rfl ?_))
           refine WS.iaVS (Row.Own.sl O102 (Mem.owni M118 0 rfl)) k hy134 rfl rfl rfl rfl ?_
           intro b138_ o138_ ha138
           refine C rfl (op_ldH rfl (At.ld0 ha138 rfl)) ?_
           refine WS.neqN (a := y134) (b := y134) rfl rfl rfl (fun e140 => ?_) (fun e140 => ?_)
           ·
            exact absurd rfl e140
           ·
            refine J [(0, _), (3, _), (4, _), (5, _), (11, _), (12, _), (13, _), (14, _), (140, _)] rfl ?_
            refine AZ rfl (CQ (U (C rfl rfl (C rfl rfl (C rfl rfl ?_)))))
            refine WS.iaVS (Row.Own.sl O96 (Mem.owni M118.bare 2 rfl)) k hy134 rfl rfl rfl rfl ?_
            intro b144_ o144_ ha144
            refine C rfl (op_ldH rfl (At.ld0 ha144 rfl)) (WS.opV (.int .i64 (((n + y134) : Nat) : Int)) rfl rfl (add_i64 (a := n) (b := y134) (by omega)) (C rfl rfl (J [(0, _), (3, _), (4, _), (5, _), (11, _), (12, _), (13, _), (14, _)] rfl ?_)))
            refine U (C rfl rfl (WS.opV (.int .i64 (((k + 1) : Nat) : Int)) rfl rfl (add_i64 (a := k) (b := 1) (by omega)) (C rfl rfl (J [(0, _), (3, _), (4, _), (5, _), (11, _), (12, _), (13, _), (14, _)] rfl ?_))))
            refine ⟨((n + y134), k + 1), rfl, ⟨((((((((M118.bare.bare.focus 6 rfl).focus 6 rfl).focus 6 rfl).focus 6 rfl).focus 6 rfl).focus 6 rfl).focus 6 rfl).take 7), ?_⟩, ?_⟩
            · exact ⟨by rw [sum_take hy134, hn], by omega⟩
            · simp only []; omega
          ·
           refine J [(0, _), (3, _), (4, _), (5, _), (11, _), (12, _), (13, _), (14, _), (129, _)] rfl ?_
           refine AZ rfl (WC.exit ?_)
           refine G (U ?_)
           have hsum : n = (madeL (l.take (i + 1))).flatten.length := by rw [hn, List.take_of_length_le (by omega), htot]
           refine C rfl rfl ?_
           refine AQ rfl rfl rfl (Len_st G3 (M115.bare.focus 3 rfl)) ?_
           rintro _ h119 ⟨rfl, M120⟩
           replace M120 : Mem _ _ (S79 :: S101 :: S87 :: S95 :: [(p24, _)] :: [(p21, _)] :: [(p16, _)] :: []) _ := M120
           refine C rfl rfl ?_
           refine WS.neqN (a := (madeL (l.take (i + 1))).flatten.length) (b := n) rfl rfl rfl (fun e150 => ?_) (fun e150 => ?_)
           ·
            exact absurd e150 (by omega)
           ·
            refine J [(0, _), (3, _), (4, _), (5, _), (150, _)] rfl ?_
            refine AZ rfl (CQ (U (C rfl rfl (WS.opV (.int .i64 (((i + 1) : Nat) : Int)) rfl rfl (add_i64 (a := i) (b := 1) (by omega)) (C rfl rfl (J [(0, _), (3, _), (4, _), (5, _)] rfl ?_))))))
            refine ⟨(S79, S87, i + 1), rfl, ⟨(((M120.bare.focus 2 rfl).focus 1 rfl).take 2), ?_⟩, ?_⟩
            · exact ⟨G3, H3, by omega⟩
            · simp only []; omega
      ·
       refine C rfl rfl (J [(0, _), (3, _), (4, _), (5, _), (6, _), (7, _), (8, _), (9, _), (10, _), (32, _), (54, _)] rfl ?_)
       refine AZ rfl (G (U (WS.eqlN (a := (y29.d).toNat) (b := 2) rfl rfl rfl (fun e71 => ?_) (fun e71 => ?_))))
       ·
        refine C rfl rfl (J [(0, _), (3, _), (4, _), (5, _), (6, _), (7, _), (8, _), (9, _), (10, _), (32, _), (70, _)] rfl ?_)
        refine WC.condT rfl (G (U (C rfl rfl (C rfl rfl (C rfl (op_ld (M26.at 2 rfl) rfl rfl) ?_)))))
        refine AQ rfl rfl rfl (Get_st (key := y29.ky) G_ (M26.bare.focus 3 rfl) (made_inv (l.take i)).1 (Nat.le_trans hN_ (by omega))) ?_
        rintro _ h121 ⟨rfl, M122⟩
        replace M122 : Mem _ _ (S_ :: [(p24, _)] :: [(p21, _)] :: [(p16, _)] :: T_ :: []) _ := M122
        refine C rfl rfl (C rfl rfl (C rfl rfl ?_))
        refine WS.st1 (M122.focus 2 rfl) [_, _, _] [_, _, _] rfl rfl rfl rfl rfl (D rfl) (D rfl) rfl rfl ?_
        intro h123 M124
        replace M124 : Mem _ _ ([(p21, _)] :: S_ :: [(p24, _)] :: [(p16, _)] :: T_ :: []) _ := M124
        refine C rfl rfl (J [(0, _), (3, _), (4, _), (5, _), (6, _), (7, _), (8, _), (9, _)] rfl ?_)
        refine U (C rfl rfl (C rfl rfl (C rfl (op_ld (M124.at 3 rfl) rfl rfl) ?_)))
        refine AQ rfl rfl rfl (rGet_st (key := y29.ky) H_ (M124.bare.focus 4 rfl) (made_inv (l.take i)).1 (Nat.le_trans hN_ (by omega))) ?_
        rintro _ h125 ⟨rfl, M126⟩
        replace M126 : Mem _ _ (T_ :: [(p21, _)] :: S_ :: [(p24, _)] :: [(p16, _)] :: []) _ := M126
        refine C rfl rfl (C rfl rfl (C rfl rfl ?_))
        refine WS.st1 (M126.focus 3 rfl) [_, _, _] [_, _, _] rfl rfl rfl rfl rfl (D rfl) (D rfl) rfl rfl ?_
        intro h127 M128
        replace M128 : Mem _ _ ([(p24, _)] :: T_ :: [(p21, _)] :: S_ :: [(p16, _)] :: []) _ := M128
        refine C rfl rfl (J [(0, _), (3, _), (4, _), (5, _), (7, _), (8, _), (9, _), (10, _)] rfl ?_)
        refine G (U ?_)
        have G3 : PgSt p18 (madeL (l.take (i + 1))) S_ := by rw [made_snoc hy29]; unfold stepL; first | (rw [if_pos e34]; exact G_) | (rw [if_neg e34, if_pos e55]; exact G_) | (rw [if_neg e34, if_neg e55]; exact G_)
        have H3 : RefSt p8 (madeL (l.take (i + 1))) T_ := by rw [made_snoc hy29]; unfold stepL; first | (rw [if_pos e34]; exact H_) | (rw [if_neg e34, if_pos e55]; exact H_) | (rw [if_neg e34, if_neg e55]; exact H_)
        have hN3 : (madeL (l.take (i + 1))).flatten.length ≤ i + 1 := Nat.le_trans (made_inv (l.take (i + 1))).2 (by rw [X]; omega)
        refine C rfl rfl ?_
        refine AQ rfl rfl rfl (Sizes_st  G3 (M128.bare.focus 3 rfl) (made_inv (l.take (i + 1))).1 (Nat.le_trans hN3 (by omega))) ?_
        rintro V133 h129 ⟨S131, O132, M130⟩
        obtain ⟨P134, rfl⟩ := Row.Own.shape O132
        replace M130 : Mem _ _ (S131 :: S_ :: [(p24, _)] :: T_ :: [(p21, _)] :: [(p16, _)] :: []) _ := M130
        refine C rfl rfl (J [(0, _), (3, _), (4, _), (5, _), (7, _), (8, _), (9, _), (10, _), (11, _)] rfl ?_)
        refine G (U (C rfl rfl ?_))
        refine AQ rfl rfl rfl (rSizes_st  H3 (M130.bare.focus 3 rfl) (made_inv (l.take (i + 1))).1 (Nat.le_trans hN3 (by omega))) ?_
        rintro V139 h135 ⟨S137, O138, M136⟩
        obtain ⟨P140, rfl⟩ := Row.Own.shape O138
        replace M136 : Mem _ _ (S137 :: T_ :: S131 :: S_ :: [(p24, _)] :: [(p21, _)] :: [(p16, _)] :: []) _ := M136
        refine C rfl rfl (J [(0, _), (3, _), (4, _), (5, _), (7, _), (8, _), (9, _), (10, _), (11, _), (12, _)] rfl ?_)
        refine G (U (C rfl rfl (J [(0, _), (3, _), (4, _), (5, _), (7, _), (8, _), (9, _), (10, _), (11, _), (12, _), (13, _)] rfl ?_)))
        refine G (G (WC.draw M136 [] rfl ?_))
        intro rb141 h142 M143
        refine C rfl (op_lds [_, _, _] (M143.at 5 rfl) rfl (D rfl) rfl) (C rfl (op_lds [_, _, _] (M143.at 4 rfl) rfl (D rfl) rfl) ?_)
        refine AQ rfl rfl rfl (given_ran M143.here (v := (⟨((getV (madeL (l.take i)).flatten y29.ky).1).val, (((getV (madeL (l.take i)).flatten y29.ky).1).ver), (((getV (madeL (l.take i)).flatten y29.ky).1).lea)⟩ : Vl))) ?_
        rintro _ h144 ⟨rfl, N145⟩
        have M146 := M143.trans N145
        refine WS.chk rfl (op_lds [_, _, _] (M146.at 4 rfl) rfl (D rfl) rfl) rfl (sameV_refl rfl) ?_
        refine WS.eqqDn (p := (⟨(((getV (madeL (l.take i)).flatten y29.ky).1).val), (((getV (madeL (l.take i)).flatten y29.ky).1).ver), (((getV (madeL (l.take i)).flatten y29.ky).1).lea)⟩ : Vl) = (⟨(((getV (madeL (l.take i)).flatten y29.ky).1).val), (((getV (madeL (l.take i)).flatten y29.ky).1).ver), (((getV (madeL (l.take i)).flatten y29.ky).1).lea)⟩ : Vl)) rfl rfl rfl (Vl_eqV _ _) (fun e113 => ?_) (fun e113 => ?_)
        ·
         exact absurd rfl e113
        ·
         refine C rfl rfl (C rfl rfl (C rfl rfl (WS.opV (.bool false) rfl rfl (by cases ((getV (madeL (l.take i)).flatten y29.ky).2) <;> rfl) (C rfl rfl (C rfl rfl (C rfl rfl (C rfl (op_lenVO O132 rfl) (C rfl rfl (C rfl (op_lenVO O138 rfl) ?_)))))))))
         refine WS.neqN (a := (((madeL (l.take (i + 1))).map List.length)).length) (b := (((madeL (l.take (i + 1))).map List.length)).length) rfl rfl rfl (fun e124 => ?_) (fun e124 => ?_)
         ·
          exact absurd rfl e124
         ·
          refine C rfl rfl (J [(0, _), (3, _), (4, _), (5, _), (11, _), (12, _), (13, _), (125, _)] rfl ?_)
          refine AZ rfl (CQ (G (G (U (C rfl rfl (J [(0, _), (3, _), (4, _), (5, _), (11, _), (12, _), (13, _), (14, _)] rfl ?_))))))
          refine WC.block ?_
          have htot : (((madeL (l.take (i + 1))).map List.length)).sum = (madeL (l.take (i + 1))).flatten.length := by rw [← List.length_flatten]
          have hstl := sum_take_le (((madeL (l.take (i + 1))).map List.length))
          have hzl : (((madeL (l.take (i + 1))).map List.length)).length ≤ 400 := by have := pages_le (made_inv (l.take (i + 1))).1; rw [List.length_map]; omega
          obtain ⟨L147, eL149, M148⟩ := Mem.name M146.bare.bare
          refine WC.loop (σ := Nat × Nat) (fun ((n, k)) => [(0, (.slice P l.length c)), (3, (.pointer (some ⟨p18, 0, none⟩))), (4, (.pointer (some ⟨p8, 0, none⟩))), (5, (.int .i64 ((i : Nat) : Int))), (11, (.slice P134 (((madeL (l.take (i + 1))).map List.length)).length (2 * (((madeL (l.take (i + 1))).map List.length)).length))), (12, (.slice P140 (((madeL (l.take (i + 1))).map List.length)).length (2 * (((madeL (l.take (i + 1))).map List.length)).length))), (13, (.int .i64 ((n : Nat) : Int))), (14, (.int .i64 ((k : Nat) : Int)))]) (fun ((n, k)) hh => Mem h hh (L147) [] ∧ n = (((madeL (l.take (i + 1))).map List.length).take k).sum ∧ k ≤ (((madeL (l.take (i + 1))).map List.length)).length) (fun ((n, k)) => ((madeL (l.take (i + 1))).map List.length).length - k) (0, 0) rfl ⟨M148, ?_⟩ ?_
          · exact ⟨by simp, by omega⟩
          ·rintro ⟨n, k⟩ h150 ⟨M151, ⟨hn, hk⟩⟩
           replace eL149 := eL149.symm; subst eL149
           refine WC.env [(0, _), (3, _), (4, _), (5, _), (11, _), (12, _), (13, _), (14, _)] rfl ?_
           have hstk := hstl k
           refine G (G (U (C rfl rfl (C rfl rfl (C rfl (op_lenVO O132 rfl) ?_)))))
           refine WS.lssN (a := k) (b := (((madeL (l.take (i + 1))).map List.length)).length) rfl rfl rfl (fun e129 => ?_) (fun e129 => ?_)
           ·
            refine J [(0, _), (3, _), (4, _), (5, _), (11, _), (12, _), (13, _), (14, _), (129, _)] rfl ?_
            refine WC.condT rfl (CQ (G (WC.block (G (G (WC.draw M151 [] rfl ?_))))))
            intro rb152 h153 M154
            refine C rfl rfl (C rfl rfl ?_)
            obtain ⟨y134, hy134⟩ : ∃ y, (((madeL (l.take (i + 1))).map List.length))[k]? = some y := ⟨_, List.getElem?_eq_getElem (show k < (((madeL (l.take (i + 1))).map List.length)).length by first | omega | (simp only [BX, X, AX, BQ, BZ, Y]; omega) | (simp only [BX, X, AX, BQ, BZ, Y] at *; omega))⟩
            have hy8 := sizes_one (made_inv (l.take (i + 1))).1 hy134
            refine WS.iaVS (Row.Own.sl O132 (Mem.owni M154 2 rfl)) k hy134 rfl rfl rfl rfl ?_
            intro b134_ o134_ ha134
            refine C rfl (op_ldH rfl (At.ld0 ha134 rfl)) (C rfl rfl (C rfl rfl ?_))
            refine WS.iaVS (Row.Own.sl O138 (Mem.owni M154 0 rfl)) k hy134 rfl rfl rfl rfl ?_
            intro b138_ o138_ ha138
            refine C rfl (op_ldH rfl (At.ld0 ha138 rfl)) ?_
            refine WS.neqN (a := y134) (b := y134) rfl rfl rfl (fun e140 => ?_) (fun e140 => ?_)
            ·
             exact absurd rfl e140
            ·
             refine J [(0, _), (3, _), (4, _), (5, _), (11, _), (12, _), (13, _), (14, _), (140, _)] rfl ?_
             refine AZ rfl (CQ (U (C rfl rfl (C rfl rfl (C rfl rfl ?_)))))
             refine WS.iaVS (Row.Own.sl O132 (Mem.owni M154.bare 2 rfl)) k hy134 rfl rfl rfl rfl ?_
             intro b144_ o144_ ha144
             refine C rfl (op_ldH rfl (At.ld0 ha144 rfl)) (WS.opV (.int .i64 (((n + y134) : Nat) : Int)) rfl rfl (add_i64 (a := n) (b := y134) (by omega)) (C rfl rfl (J [(0, _), (3, _), (4, _), (5, _), (11, _), (12, _), (13, _), (14, _)] rfl ?_)))
             refine U (C rfl rfl (WS.opV (.int .i64 (((k + 1) : Nat) : Int)) rfl rfl (add_i64 (a := k) (b := 1) (by omega)) (C rfl rfl (J [(0, _), (3, _), (4, _), (5, _), (11, _), (12, _), (13, _), (14, _)] rfl ?_))))
             refine ⟨((n + y134), k + 1), rfl, ⟨((((((((M154.bare.bare.focus 6 rfl).focus 6 rfl).focus 6 rfl).focus 6 rfl).focus 6 rfl).focus 6 rfl).focus 6 rfl).take 7), ?_⟩, ?_⟩
             · exact ⟨by rw [sum_take hy134, hn], by omega⟩
             · simp only []; omega
           ·
            refine J [(0, _), (3, _), (4, _), (5, _), (11, _), (12, _), (13, _), (14, _), (129, _)] rfl ?_
            refine AZ rfl (WC.exit ?_)
            refine G (U ?_)
            have hsum : n = (madeL (l.take (i + 1))).flatten.length := by rw [hn, List.take_of_length_le (by omega), htot]
            refine C rfl rfl ?_
            refine AQ rfl rfl rfl (Len_st G3 (M151.bare.focus 3 rfl)) ?_
            rintro _ h155 ⟨rfl, M156⟩
            replace M156 : Mem _ _ (S_ :: S137 :: T_ :: S131 :: [(p24, _)] :: [(p21, _)] :: [(p16, _)] :: []) _ := M156
            refine C rfl rfl ?_
            refine WS.neqN (a := (madeL (l.take (i + 1))).flatten.length) (b := n) rfl rfl rfl (fun e150 => ?_) (fun e150 => ?_)
            ·
             exact absurd e150 (by omega)
            ·
             refine J [(0, _), (3, _), (4, _), (5, _), (150, _)] rfl ?_
             refine AZ rfl (CQ (U (C rfl rfl (WS.opV (.int .i64 (((i + 1) : Nat) : Int)) rfl rfl (add_i64 (a := i) (b := 1) (by omega)) (C rfl rfl (J [(0, _), (3, _), (4, _), (5, _)] rfl ?_))))))
             refine ⟨(S_, T_, i + 1), rfl, ⟨(((M156.bare.focus 2 rfl).focus 1 rfl).take 2), ?_⟩, ?_⟩
             · exact ⟨G3, H3, by omega⟩
             · simp only []; omega
       ·
        refine C rfl rfl (J [(0, _), (3, _), (4, _), (5, _), (6, _), (7, _), (8, _), (9, _), (10, _), (32, _), (70, _)] rfl ?_)
        refine AZ rfl (G (U (WS.eqlN (a := (y29.d).toNat) (b := 3) rfl rfl rfl (fun e87 => ?_) (fun e87 => ?_))))
        ·
         refine C rfl rfl (J [(0, _), (3, _), (4, _), (5, _), (6, _), (7, _), (8, _), (9, _), (10, _), (86, _)] rfl ?_)
         refine WC.condT rfl (G (WC.draw M26 [] rfl ?_))
         intro rb157 h158 M159
         refine C rfl rfl (C rfl rfl (C rfl (op_ld (M159.at 2 rfl) rfl rfl) (C rfl rfl (C rfl (op_ld (M159.at 2 rfl) rfl rfl) (C rfl rfl (C rfl (op_ld (M159.at 2 rfl) rfl rfl) (C rfl rfl (C rfl rfl (C rfl (op_ld (M159.at 2 rfl) rfl rfl) ?_)))))))))
         refine C rfl rfl (C rfl (op_ld (M159.at 2 rfl) rfl rfl) (C rfl rfl (C rfl (op_ld (M159.at 2 rfl) rfl rfl) ?_)))
         refine AQ rfl rfl rfl (Range_st (fr := y29.ky) (to := y29.to) (most := (y29.mo).toInt) G_ (M159.bare.focus 3 rfl) (made_inv (l.take i)).1 (Nat.le_trans hN_ (by omega))) ?_
         rintro V164 h160 ⟨S162, O163, M161⟩
         obtain ⟨P165, rfl⟩ := Row.Own.shape O163
         replace M161 : Mem _ _ (S162 :: S_ :: [(p24, _)] :: [(p21, _)] :: [(p16, _)] :: T_ :: []) _ := M161
         refine WS.chk rfl (op_ld (M161.at 4 rfl) rfl rfl) rfl (sameV_refl rfl) (WS.chk rfl (op_ld (M161.at 4 rfl) rfl rfl) rfl (sameV_refl rfl) (WS.chk rfl (op_ld (M161.at 4 rfl) rfl rfl) rfl (sameV_refl rfl) ?_))
         refine AQ rfl rfl rfl (rRange_st (fr := y29.ky) (to := y29.to) (most := (y29.mo).toInt) H_ (M161.bare.focus 5 rfl) (made_inv (l.take i)).1 (Nat.le_trans hN_ (by omega))) ?_
         rintro V170 h166 ⟨S168, O169, M167⟩
         obtain ⟨P171, rfl⟩ := Row.Own.shape O169
         replace M167 : Mem _ _ (S168 :: T_ :: S162 :: S_ :: [(p24, _)] :: [(p21, _)] :: [(p16, _)] :: []) _ := M167
         refine AQ rfl rfl rfl (same_eq (l := (rangeF (madeL (l.take i)).flatten y29.ky y29.to ((y29.mo).toInt))) O163 O169 ((M167.bare.focus 0 rfl).focus 2 rfl) (Nat.le_trans (rangeF_len _ _ _ _) (Nat.le_trans hN_ (by omega)))) ?_
         rintro _ h172 ⟨rfl, M173⟩
         replace M173 : Mem _ _ (T_ :: S_ :: [(p24, _)] :: [(p21, _)] :: [(p16, _)] :: []) _ := M173
         refine WS.opV (.bool false) rfl rfl rfl (J [(0, _), (3, _), (4, _), (5, _), (7, _), (8, _), (9, _), (10, _), (105, _)] rfl ?_)
         refine AZ rfl (CQ (G (U ?_)))
         have G3 : PgSt p18 (madeL (l.take (i + 1))) S_ := by rw [made_snoc hy29]; unfold stepL; first | (rw [if_pos e34]; exact G_) | (rw [if_neg e34, if_pos e55]; exact G_) | (rw [if_neg e34, if_neg e55]; exact G_)
         have H3 : RefSt p8 (madeL (l.take (i + 1))) T_ := by rw [made_snoc hy29]; unfold stepL; first | (rw [if_pos e34]; exact H_) | (rw [if_neg e34, if_pos e55]; exact H_) | (rw [if_neg e34, if_neg e55]; exact H_)
         have hN3 : (madeL (l.take (i + 1))).flatten.length ≤ i + 1 := Nat.le_trans (made_inv (l.take (i + 1))).2 (by rw [X]; omega)
         refine C rfl rfl ?_
         refine AQ rfl rfl rfl (Sizes_st  G3 (M173.bare.bare.focus 1 rfl) (made_inv (l.take (i + 1))).1 (Nat.le_trans hN3 (by omega))) ?_
         rintro V178 h174 ⟨S176, O177, M175⟩
         obtain ⟨P179, rfl⟩ := Row.Own.shape O177
         replace M175 : Mem _ _ (S176 :: S_ :: T_ :: [(p24, _)] :: [(p21, _)] :: [(p16, _)] :: []) _ := M175
         refine C rfl rfl (J [(0, _), (3, _), (4, _), (5, _), (7, _), (8, _), (9, _), (10, _), (11, _)] rfl ?_)
         refine G (U (C rfl rfl ?_))
         refine AQ rfl rfl rfl (rSizes_st  H3 (M175.bare.focus 2 rfl) (made_inv (l.take (i + 1))).1 (Nat.le_trans hN3 (by omega))) ?_
         rintro V184 h180 ⟨S182, O183, M181⟩
         obtain ⟨P185, rfl⟩ := Row.Own.shape O183
         replace M181 : Mem _ _ (S182 :: T_ :: S176 :: S_ :: [(p24, _)] :: [(p21, _)] :: [(p16, _)] :: []) _ := M181
         refine C rfl rfl (J [(0, _), (3, _), (4, _), (5, _), (7, _), (8, _), (9, _), (10, _), (11, _), (12, _)] rfl ?_)
         refine G (U (C rfl rfl (J [(0, _), (3, _), (4, _), (5, _), (7, _), (8, _), (9, _), (10, _), (11, _), (12, _), (13, _)] rfl ?_)))
         refine G (G (WC.draw M181 [] rfl ?_))
         intro rb186 h187 M188
         refine C rfl (op_lds [_, _, _] (M188.at 5 rfl) rfl (D rfl) rfl) (C rfl (op_lds [_, _, _] (M188.at 4 rfl) rfl (D rfl) rfl) ?_)
         refine AQ rfl rfl rfl (given_ran M188.here (v := (⟨[], 0, 0⟩ : Vl))) ?_
         rintro _ h189 ⟨rfl, N190⟩
         have M191 := M188.trans N190
         refine WS.chk rfl (op_lds [_, _, _] (M191.at 4 rfl) rfl (D rfl) rfl) rfl (sameV_refl rfl) ?_
         refine WS.eqqDn (p := (⟨([]), 0, 0⟩ : Vl) = (⟨([]), 0, 0⟩ : Vl)) rfl rfl rfl (Vl_eqV (⟨([]), 0, 0⟩ : Vl) (⟨([]), 0, 0⟩ : Vl)) (fun e113 => ?_) (fun e113 => ?_)
         ·
          exact absurd rfl e113
         ·
          refine C rfl rfl (C rfl rfl (C rfl rfl (WS.opV (.bool false) rfl rfl rfl (C rfl rfl (C rfl rfl (C rfl rfl (C rfl (op_lenVO O177 rfl) (C rfl rfl (C rfl (op_lenVO O183 rfl) ?_)))))))))
          refine WS.neqN (a := (((madeL (l.take (i + 1))).map List.length)).length) (b := (((madeL (l.take (i + 1))).map List.length)).length) rfl rfl rfl (fun e124 => ?_) (fun e124 => ?_)
          ·
           exact absurd rfl e124
          ·
           refine C rfl rfl (J [(0, _), (3, _), (4, _), (5, _), (11, _), (12, _), (13, _), (125, _)] rfl ?_)
           refine AZ rfl (CQ (G (G (U (C rfl rfl (J [(0, _), (3, _), (4, _), (5, _), (11, _), (12, _), (13, _), (14, _)] rfl ?_))))))
           refine WC.block ?_
           have htot : (((madeL (l.take (i + 1))).map List.length)).sum = (madeL (l.take (i + 1))).flatten.length := by rw [← List.length_flatten]
           have hstl := sum_take_le (((madeL (l.take (i + 1))).map List.length))
           have hzl : (((madeL (l.take (i + 1))).map List.length)).length ≤ 400 := by have := pages_le (made_inv (l.take (i + 1))).1; rw [List.length_map]; omega
           obtain ⟨L192, eL194, M193⟩ := Mem.name M191.bare.bare
           refine WC.loop (σ := Nat × Nat) (fun ((n, k)) => [(0, (.slice P l.length c)), (3, (.pointer (some ⟨p18, 0, none⟩))), (4, (.pointer (some ⟨p8, 0, none⟩))), (5, (.int .i64 ((i : Nat) : Int))), (11, (.slice P179 (((madeL (l.take (i + 1))).map List.length)).length (2 * (((madeL (l.take (i + 1))).map List.length)).length))), (12, (.slice P185 (((madeL (l.take (i + 1))).map List.length)).length (2 * (((madeL (l.take (i + 1))).map List.length)).length))), (13, (.int .i64 ((n : Nat) : Int))), (14, (.int .i64 ((k : Nat) : Int)))]) (fun ((n, k)) hh => Mem h hh (L192) [] ∧ n = (((madeL (l.take (i + 1))).map List.length).take k).sum ∧ k ≤ (((madeL (l.take (i + 1))).map List.length)).length) (fun ((n, k)) => ((madeL (l.take (i + 1))).map List.length).length - k) (0, 0) rfl ⟨M193, ?_⟩ ?_
           · exact ⟨by simp, by omega⟩
           ·rintro ⟨n, k⟩ h195 ⟨M196, ⟨hn, hk⟩⟩
            replace eL194 := eL194.symm; subst eL194
            refine WC.env [(0, _), (3, _), (4, _), (5, _), (11, _), (12, _), (13, _), (14, _)] rfl ?_
            have hstk := hstl k
            refine G (G (U (C rfl rfl (C rfl rfl (C rfl (op_lenVO O177 rfl) ?_)))))
            refine WS.lssN (a := k) (b := (((madeL (l.take (i + 1))).map List.length)).length) rfl rfl rfl (fun e129 => ?_) (fun e129 => ?_)
            ·
             refine J [(0, _), (3, _), (4, _), (5, _), (11, _), (12, _), (13, _), (14, _), (129, _)] rfl ?_
             refine WC.condT rfl (CQ (G (WC.block (G (G (WC.draw M196 [] rfl ?_))))))
             intro rb197 h198 M199
             refine C rfl rfl (C rfl rfl ?_)
             obtain ⟨y134, hy134⟩ : ∃ y, (((madeL (l.take (i + 1))).map List.length))[k]? = some y := ⟨_, List.getElem?_eq_getElem (show k < (((madeL (l.take (i + 1))).map List.length)).length by first | omega | (simp only [BX, X, AX, BQ, BZ, Y]; omega) | (simp only [BX, X, AX, BQ, BZ, Y] at *; omega))⟩
             have hy8 := sizes_one (made_inv (l.take (i + 1))).1 hy134
             refine WS.iaVS (Row.Own.sl O177 (Mem.owni M199 2 rfl)) k hy134 rfl rfl rfl rfl ?_
             intro b134_ o134_ ha134
             refine C rfl (op_ldH rfl (At.ld0 ha134 rfl)) (C rfl rfl (C rfl rfl ?_))
             refine WS.iaVS (Row.Own.sl O183 (Mem.owni M199 0 rfl)) k hy134 rfl rfl rfl rfl ?_
             intro b138_ o138_ ha138
             refine C rfl (op_ldH rfl (At.ld0 ha138 rfl)) ?_
             refine WS.neqN (a := y134) (b := y134) rfl rfl rfl (fun e140 => ?_) (fun e140 => ?_)
             ·
              exact absurd rfl e140
             ·
              refine J [(0, _), (3, _), (4, _), (5, _), (11, _), (12, _), (13, _), (14, _), (140, _)] rfl ?_
              refine AZ rfl (CQ (U (C rfl rfl (C rfl rfl (C rfl rfl ?_)))))
              refine WS.iaVS (Row.Own.sl O177 (Mem.owni M199.bare 2 rfl)) k hy134 rfl rfl rfl rfl ?_
              intro b144_ o144_ ha144
              refine C rfl (op_ldH rfl (At.ld0 ha144 rfl)) (WS.opV (.int .i64 (((n + y134) : Nat) : Int)) rfl rfl (add_i64 (a := n) (b := y134) (by omega)) (C rfl rfl (J [(0, _), (3, _), (4, _), (5, _), (11, _), (12, _), (13, _), (14, _)] rfl ?_)))
              refine U (C rfl rfl (WS.opV (.int .i64 (((k + 1) : Nat) : Int)) rfl rfl (add_i64 (a := k) (b := 1) (by omega)) (C rfl rfl (J [(0, _), (3, _), (4, _), (5, _), (11, _), (12, _), (13, _), (14, _)] rfl ?_))))
              refine ⟨((n + y134), k + 1), rfl, ⟨((((((((M199.bare.bare.focus 6 rfl).focus 6 rfl).focus 6 rfl).focus 6 rfl).focus 6 rfl).focus 6 rfl).focus 6 rfl).take 7), ?_⟩, ?_⟩
              · exact ⟨by rw [sum_take hy134, hn], by omega⟩
              · simp only []; omega
            ·
             refine J [(0, _), (3, _), (4, _), (5, _), (11, _), (12, _), (13, _), (14, _), (129, _)] rfl ?_
             refine AZ rfl (WC.exit ?_)
             refine G (U ?_)
             have hsum : n = (madeL (l.take (i + 1))).flatten.length := by rw [hn, List.take_of_length_le (by omega), htot]
             refine C rfl rfl ?_
             refine AQ rfl rfl rfl (Len_st G3 (M196.bare.focus 3 rfl)) ?_
             rintro _ h200 ⟨rfl, M201⟩
             replace M201 : Mem _ _ (S_ :: S182 :: T_ :: S176 :: [(p24, _)] :: [(p21, _)] :: [(p16, _)] :: []) _ := M201
             refine C rfl rfl ?_
             refine WS.neqN (a := (madeL (l.take (i + 1))).flatten.length) (b := n) rfl rfl rfl (fun e150 => ?_) (fun e150 => ?_)
             ·
              exact absurd e150 (by omega)
             ·
              refine J [(0, _), (3, _), (4, _), (5, _), (150, _)] rfl ?_
              refine AZ rfl (CQ (U (C rfl rfl (WS.opV (.int .i64 (((i + 1) : Nat) : Int)) rfl rfl (add_i64 (a := i) (b := 1) (by omega)) (C rfl rfl (J [(0, _), (3, _), (4, _), (5, _)] rfl ?_))))))
              refine ⟨(S_, T_, i + 1), rfl, ⟨(((M201.bare.focus 2 rfl).focus 1 rfl).take 2), ?_⟩, ?_⟩
              · exact ⟨G3, H3, by omega⟩
              · simp only []; omega
        ·
         refine C rfl rfl (J [(0, _), (3, _), (4, _), (5, _), (6, _), (7, _), (8, _), (9, _), (10, _), (86, _)] rfl ?_)
         refine AZ rfl (CQ (G (U ?_)))
         have G3 : PgSt p18 (madeL (l.take (i + 1))) S_ := by rw [made_snoc hy29]; unfold stepL; first | (rw [if_pos e34]; exact G_) | (rw [if_neg e34, if_pos e55]; exact G_) | (rw [if_neg e34, if_neg e55]; exact G_)
         have H3 : RefSt p8 (madeL (l.take (i + 1))) T_ := by rw [made_snoc hy29]; unfold stepL; first | (rw [if_pos e34]; exact H_) | (rw [if_neg e34, if_pos e55]; exact H_) | (rw [if_neg e34, if_neg e55]; exact H_)
         have hN3 : (madeL (l.take (i + 1))).flatten.length ≤ i + 1 := Nat.le_trans (made_inv (l.take (i + 1))).2 (by rw [X]; omega)
         refine C rfl rfl ?_
         refine AQ rfl rfl rfl (Sizes_st  G3 (M26.bare.focus 3 rfl) (made_inv (l.take (i + 1))).1 (Nat.le_trans hN3 (by omega))) ?_
         rintro V206 h202 ⟨S204, O205, M203⟩
         obtain ⟨P207, rfl⟩ := Row.Own.shape O205
         replace M203 : Mem _ _ (S204 :: S_ :: [(p24, _)] :: [(p21, _)] :: [(p16, _)] :: T_ :: []) _ := M203
         refine C rfl rfl (J [(0, _), (3, _), (4, _), (5, _), (7, _), (8, _), (9, _), (10, _), (11, _)] rfl ?_)
         refine G (U (C rfl rfl ?_))
         refine AQ rfl rfl rfl (rSizes_st  H3 (M203.bare.focus 5 rfl) (made_inv (l.take (i + 1))).1 (Nat.le_trans hN3 (by omega))) ?_
         rintro V212 h208 ⟨S210, O211, M209⟩
         obtain ⟨P213, rfl⟩ := Row.Own.shape O211
         replace M209 : Mem _ _ (S210 :: T_ :: S204 :: S_ :: [(p24, _)] :: [(p21, _)] :: [(p16, _)] :: []) _ := M209
         refine C rfl rfl (J [(0, _), (3, _), (4, _), (5, _), (7, _), (8, _), (9, _), (10, _), (11, _), (12, _)] rfl ?_)
         refine G (U (C rfl rfl (J [(0, _), (3, _), (4, _), (5, _), (7, _), (8, _), (9, _), (10, _), (11, _), (12, _), (13, _)] rfl ?_)))
         refine G (G (WC.draw M209 [] rfl ?_))
         intro rb214 h215 M216
         refine C rfl (op_lds [_, _, _] (M216.at 5 rfl) rfl (D rfl) rfl) (C rfl (op_lds [_, _, _] (M216.at 4 rfl) rfl (D rfl) rfl) ?_)
         refine AQ rfl rfl rfl (given_ran M216.here (v := (⟨[], 0, 0⟩ : Vl))) ?_
         rintro _ h217 ⟨rfl, N218⟩
         have M219 := M216.trans N218
         refine WS.chk rfl (op_lds [_, _, _] (M219.at 4 rfl) rfl (D rfl) rfl) rfl (sameV_refl rfl) ?_
         refine WS.eqqDn (p := (⟨([]), 0, 0⟩ : Vl) = (⟨([]), 0, 0⟩ : Vl)) rfl rfl rfl (Vl_eqV (⟨([]), 0, 0⟩ : Vl) (⟨([]), 0, 0⟩ : Vl)) (fun e113 => ?_) (fun e113 => ?_)
         ·
          exact absurd rfl e113
         ·
          refine C rfl rfl (C rfl rfl (C rfl rfl (WS.opV (.bool false) rfl rfl rfl (C rfl rfl (C rfl rfl (C rfl rfl (C rfl (op_lenVO O205 rfl) (C rfl rfl (C rfl (op_lenVO O211 rfl) ?_)))))))))
          refine WS.neqN (a := (((madeL (l.take (i + 1))).map List.length)).length) (b := (((madeL (l.take (i + 1))).map List.length)).length) rfl rfl rfl (fun e124 => ?_) (fun e124 => ?_)
          ·
           exact absurd rfl e124
          ·
           refine C rfl rfl (J [(0, _), (3, _), (4, _), (5, _), (11, _), (12, _), (13, _), (125, _)] rfl ?_)
           refine AZ rfl (CQ (G (G (U (C rfl rfl (J [(0, _), (3, _), (4, _), (5, _), (11, _), (12, _), (13, _), (14, _)] rfl ?_))))))
           refine WC.block ?_
           have htot : (((madeL (l.take (i + 1))).map List.length)).sum = (madeL (l.take (i + 1))).flatten.length := by rw [← List.length_flatten]
           have hstl := sum_take_le (((madeL (l.take (i + 1))).map List.length))
           have hzl : (((madeL (l.take (i + 1))).map List.length)).length ≤ 400 := by have := pages_le (made_inv (l.take (i + 1))).1; rw [List.length_map]; omega
           obtain ⟨L220, eL222, M221⟩ := Mem.name M219.bare.bare
           refine WC.loop (σ := Nat × Nat) (fun ((n, k)) => [(0, (.slice P l.length c)), (3, (.pointer (some ⟨p18, 0, none⟩))), (4, (.pointer (some ⟨p8, 0, none⟩))), (5, (.int .i64 ((i : Nat) : Int))), (11, (.slice P207 (((madeL (l.take (i + 1))).map List.length)).length (2 * (((madeL (l.take (i + 1))).map List.length)).length))), (12, (.slice P213 (((madeL (l.take (i + 1))).map List.length)).length (2 * (((madeL (l.take (i + 1))).map List.length)).length))), (13, (.int .i64 ((n : Nat) : Int))), (14, (.int .i64 ((k : Nat) : Int)))]) (fun ((n, k)) hh => Mem h hh (L220) [] ∧ n = (((madeL (l.take (i + 1))).map List.length).take k).sum ∧ k ≤ (((madeL (l.take (i + 1))).map List.length)).length) (fun ((n, k)) => ((madeL (l.take (i + 1))).map List.length).length - k) (0, 0) rfl ⟨M221, ?_⟩ ?_
           · exact ⟨by simp, by omega⟩
           ·rintro ⟨n, k⟩ h223 ⟨M224, ⟨hn, hk⟩⟩
            replace eL222 := eL222.symm; subst eL222
            refine WC.env [(0, _), (3, _), (4, _), (5, _), (11, _), (12, _), (13, _), (14, _)] rfl ?_
            have hstk := hstl k
            refine G (G (U (C rfl rfl (C rfl rfl (C rfl (op_lenVO O205 rfl) ?_)))))
            refine WS.lssN (a := k) (b := (((madeL (l.take (i + 1))).map List.length)).length) rfl rfl rfl (fun e129 => ?_) (fun e129 => ?_)
            ·
             refine J [(0, _), (3, _), (4, _), (5, _), (11, _), (12, _), (13, _), (14, _), (129, _)] rfl ?_
             refine WC.condT rfl (CQ (G (WC.block (G (G (WC.draw M224 [] rfl ?_))))))
             intro rb225 h226 M227
             refine C rfl rfl (C rfl rfl ?_)
             obtain ⟨y134, hy134⟩ : ∃ y, (((madeL (l.take (i + 1))).map List.length))[k]? = some y := ⟨_, List.getElem?_eq_getElem (show k < (((madeL (l.take (i + 1))).map List.length)).length by first | omega | (simp only [BX, X, AX, BQ, BZ, Y]; omega) | (simp only [BX, X, AX, BQ, BZ, Y] at *; omega))⟩
             have hy8 := sizes_one (made_inv (l.take (i + 1))).1 hy134
             refine WS.iaVS (Row.Own.sl O205 (Mem.owni M227 2 rfl)) k hy134 rfl rfl rfl rfl ?_
             intro b134_ o134_ ha134
             refine C rfl (op_ldH rfl (At.ld0 ha134 rfl)) (C rfl rfl (C rfl rfl ?_))
             refine WS.iaVS (Row.Own.sl O211 (Mem.owni M227 0 rfl)) k hy134 rfl rfl rfl rfl ?_
             intro b138_ o138_ ha138
             refine C rfl (op_ldH rfl (At.ld0 ha138 rfl)) ?_
             refine WS.neqN (a := y134) (b := y134) rfl rfl rfl (fun e140 => ?_) (fun e140 => ?_)
             ·
              exact absurd rfl e140
             ·
              refine J [(0, _), (3, _), (4, _), (5, _), (11, _), (12, _), (13, _), (14, _), (140, _)] rfl ?_
              refine AZ rfl (CQ (U (C rfl rfl (C rfl rfl (C rfl rfl ?_)))))
              refine WS.iaVS (Row.Own.sl O205 (Mem.owni M227.bare 2 rfl)) k hy134 rfl rfl rfl rfl ?_
              intro b144_ o144_ ha144
              refine C rfl (op_ldH rfl (At.ld0 ha144 rfl)) (WS.opV (.int .i64 (((n + y134) : Nat) : Int)) rfl rfl (add_i64 (a := n) (b := y134) (by omega)) (C rfl rfl (J [(0, _), (3, _), (4, _), (5, _), (11, _), (12, _), (13, _), (14, _)] rfl ?_)))
              refine U (C rfl rfl (WS.opV (.int .i64 (((k + 1) : Nat) : Int)) rfl rfl (add_i64 (a := k) (b := 1) (by omega)) (C rfl rfl (J [(0, _), (3, _), (4, _), (5, _), (11, _), (12, _), (13, _), (14, _)] rfl ?_))))
              refine ⟨((n + y134), k + 1), rfl, ⟨((((((((M227.bare.bare.focus 6 rfl).focus 6 rfl).focus 6 rfl).focus 6 rfl).focus 6 rfl).focus 6 rfl).focus 6 rfl).take 7), ?_⟩, ?_⟩
              · exact ⟨by rw [sum_take hy134, hn], by omega⟩
              · simp only []; omega
            ·
             refine J [(0, _), (3, _), (4, _), (5, _), (11, _), (12, _), (13, _), (14, _), (129, _)] rfl ?_
             refine AZ rfl (WC.exit ?_)
             refine G (U ?_)
             have hsum : n = (madeL (l.take (i + 1))).flatten.length := by rw [hn, List.take_of_length_le (by omega), htot]
             refine C rfl rfl ?_
             refine AQ rfl rfl rfl (Len_st G3 (M224.bare.focus 3 rfl)) ?_
             rintro _ h228 ⟨rfl, M229⟩
             replace M229 : Mem _ _ (S_ :: S210 :: T_ :: S204 :: [(p24, _)] :: [(p21, _)] :: [(p16, _)] :: []) _ := M229
             refine C rfl rfl ?_
             refine WS.neqN (a := (madeL (l.take (i + 1))).flatten.length) (b := n) rfl rfl rfl (fun e150 => ?_) (fun e150 => ?_)
             ·
              exact absurd e150 (by omega)
             ·
              refine J [(0, _), (3, _), (4, _), (5, _), (150, _)] rfl ?_
              refine AZ rfl (CQ (U (C rfl rfl (WS.opV (.int .i64 (((i + 1) : Nat) : Int)) rfl rfl (add_i64 (a := i) (b := 1) (by omega)) (C rfl rfl (J [(0, _), (3, _), (4, _), (5, _)] rfl ?_))))))
              refine ⟨(S_, T_, i + 1), rfl, ⟨(((M229.bare.focus 2 rfl).focus 1 rfl).take 2), ?_⟩, ?_⟩
              · exact ⟨G3, H3, by omega⟩
              · simp only []; omega
    ·
     refine J [(0, _), (3, _), (4, _), (5, _), (24, _)] rfl ?_
     refine AZ rfl (WC.exit ?_)
     refine G (U ?_)
     have hfin : l.take i = l := List.take_of_length_le (by omega)
     refine C rfl rfl ?_
     refine AQ rfl rfl rfl (Range_st (fr := []) (to := []) (most := (1099511627776 : Int)) G_ (M15.bare.focus 0 rfl) (made_inv (l.take i)).1 (Nat.le_trans hN_ (by omega))) ?_
     rintro V234 h230 ⟨S232, O233, M231⟩
     rw [range_all (Nat.le_trans hN_ (by omega))] at O233
     obtain ⟨P235, rfl⟩ := Row.Own.shape O233
     replace M231 : Mem _ _ (S232 :: S_ :: T_ :: []) _ := M231
     refine C rfl rfl ?_
     refine AQ rfl rfl rfl (rRange_st (fr := []) (to := []) (most := (1099511627776 : Int)) H_ (M231.bare.focus 2 rfl) (made_inv (l.take i)).1 (Nat.le_trans hN_ (by omega))) ?_
     rintro V240 h236 ⟨S238, O239, M237⟩
     rw [range_all (Nat.le_trans hN_ (by omega))] at O239
     obtain ⟨P241, rfl⟩ := Row.Own.shape O239
     replace M237 : Mem _ _ (S238 :: T_ :: S232 :: S_ :: []) _ := M237
     refine AQ rfl rfl rfl (same_eq (l := (madeL (l.take i)).flatten) O233 O239 ((M237.bare.focus 0 rfl).focus 2 rfl) (Nat.le_trans hN_ (by omega))) ?_
     rintro _ h242 ⟨rfl, M243⟩
     replace M243 : Mem _ _ (T_ :: S_ :: []) _ := M243
     refine C rfl rfl ?_
     refine AQ rfl rfl rfl (awake15_ran M243.here ) ?_
     rintro _ h244 ⟨rfl, N245⟩
     have M246 := M243.trans N245
     refine C rfl rfl (C rfl rfl (J [(2, _)] rfl ?_))
     refine WC.ret (⟨[_], (res_tmp rfl res_nil), ?_⟩)
     rfl
  ·
   refine WC.condT rfl (G (U (AQ rfl rfl rfl (awake15_ran M3.here ) ?_)))
   rintro _ h247 ⟨rfl, N248⟩
   have M249 := M3.trans N248
   refine C rfl rfl (J [(2, _)] rfl ?_)
   refine WC.ret (⟨[_], (res_tmp rfl res_nil), ?_⟩)
   rfl
end Go.Proofs.Ytfnhhelbegnopaa.Wt
