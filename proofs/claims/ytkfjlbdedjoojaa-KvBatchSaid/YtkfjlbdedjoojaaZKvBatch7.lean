/- The law 'KvBatch' returns true for all arguments: what its proof stands on, part 7. -/
import Derived.Test.YtkfjlbdedjoojaaZKvBatch6
import Derived.OpenShut
namespace Go.Proofs.Ytkfjlbdedjoojaa.Am
open Go
set_option linter.unusedVariables false
set_option linter.unusedSimpArgs false
abbrev BL := List (Option Blk × Option Am.Loc)
def CompR (r : Rho) (k : Nat) (bl : BL) : Prop := ∀ i p, bl[i]? = some p → r (k + i) = p.2
def CompH (h : H) (k : Nat) (bl : BL) : Prop := ∀ i p, bl[i]? = some p → ∀ B, p.1 = some B → h.get (k + i) = some B
def BlkOK (W : World) (r : Rho) (p : Option Blk × Option Am.Loc) : Prop := ∀ B, p.1 = some B → ∃ L c e fz, p.2 = some L ∧ W.heap[L.b]? = some (.cells c e fz) ∧ L.es = B.es ∧ B.cells.length ≤ L.lim ∧ L.o + L.lim ≤ c.size ∧ B.ro = true ∧
  ∀ (i : Nat) (v : Value), B.cells[i]? = some v → v.oneCell' = true ∧ ∃ v', c[L.o + i]? = some v' ∧ VR r v v'
theorem CompR.left {r : Rho} {k : Nat} {a b : BL} (h : CompR r k (a ++ b)) : CompR r k a := fun i p hp => h i p (by rw [List.getElem?_append_left (List.getElem?_eq_some_iff.1 hp).1]; exact hp)
theorem CompR.right {r : Rho} {k : Nat} {a b : BL} (h : CompR r k (a ++ b)) : CompR r (k + a.length) b := fun i p hp => by
  have := h (a.length + i) p (by rw [List.getElem?_append_right (by omega), Nat.add_sub_cancel_left]; exact hp)
  rw [← this]; congr 1; omega
theorem CompH.left {r : H} {k : Nat} {a b : BL} (h : CompH r k (a ++ b)) : CompH r k a := fun i p hp => h i p (by rw [List.getElem?_append_left (List.getElem?_eq_some_iff.1 hp).1]; exact hp)
theorem CompH.right {r : H} {k : Nat} {a b : BL} (h : CompH r k (a ++ b)) : CompH r (k + a.length) b := fun i p hp B hB => by
  have := h (a.length + i) p (by rw [List.getElem?_append_right (by omega), Nat.add_sub_cancel_left]; exact hp) B hB
  rw [← this]; congr 1; omega
abbrev Lay (α : Type) := H → α → List Value → Prop
def Given (W : World) (k n : Nat) {α : Type} (L : Lay α) (ok : α → Prop) (cs : List Value) : Prop :=
  ∃ (a : α) (bl : BL) (acs : List Value), acs.length = n ∧ acs.all (·.oneCell') = true ∧ (∀ r, CompR r k bl → (∀ p ∈ bl, BlkOK W r p) ∧ VL r acs cs) ∧ (∀ h, CompH h k bl → L h a acs) ∧ ok a
def OpensL (P : Program) (t : TypeId) {α : Type} (L : Lay α) (n : Nat) (ok : α → Prop) : Prop :=
  P.cellsOf t = n ∧ ∀ {Hh : Type} (enc : TypeId × Value → Hh) (W : World) (held : Bool) (fuel : Nat) (cs : List Value) (x : DataW Hh × List MemPlace), DataW.trod enc P W 0 (fun _ => true) held fuel t cs = some x → ∀ k, Given W k n L ok cs
section
variable {P : Program} {t e : TypeId}
theorem given_plain {W : World} {k : Nat} {α : Type} {L : Lay α} {ok : α → Prop} {v : Value} (a : α) (hp : plain1 v = true) (hL : ∀ h, L h a [v]) (ho : ok a) : Given W k 1 L ok [v] :=
  ⟨a, [], [v], rfl, by simp [oneCell_of_plain1 hp], fun r _ => ⟨fun p hp => by simp at hp, VL.cons (VR.of_plain1 hp) (VL.nil r)⟩, fun h _ => hL h, ho⟩
def layU8 : Lay UInt8 := fun _ a cs => cs = [.int .u8 ((a.toNat : Nat) : Int)]
def layU64 : Lay UInt64 := fun _ a cs => cs = [.int .u64 ((a.toNat : Nat) : Int)]
def layI64 : Lay Int64 := fun _ a cs => cs = [.int .i64 a.toInt]
def layStr : Lay (List UInt8) := fun _ a cs => cs = [.string (bs a)]
theorem OpensL.u8 (ht : P.underlying t = some (.int .u8)) (hc : P.cellsOf t = 1) : OpensL P t layU8 1 (fun _ => True) := by
  refine ⟨hc, fun enc W held fuel cs x h k => ?_⟩
  obtain ⟨n, rfl, _, hw⟩ := DataW.trod_int ht h
  have hw : 0 ≤ n ∧ n ≤ 255 := by simpa [Lit.wf, IntKind.min, IntKind.max, IntKind.signed, IntKind.bits] using hw
  have e : n = (((UInt8.ofNat n.toNat).toNat : Nat) : Int) := by rw [UInt8.toNat_ofNat']; omega
  exact given_plain (UInt8.ofNat n.toNat) rfl (fun _ => by show _ = _; rw [← e]) trivial
theorem OpensL.u64 (ht : P.underlying t = some (.int .u64)) (hc : P.cellsOf t = 1) : OpensL P t layU64 1 (fun _ => True) := by
  refine ⟨hc, fun enc W held fuel cs x h k => ?_⟩
  obtain ⟨n, rfl, _, hw⟩ := DataW.trod_int ht h
  have hw : 0 ≤ n ∧ n ≤ 18446744073709551615 := by simpa [Lit.wf, IntKind.min, IntKind.max, IntKind.signed, IntKind.bits] using hw
  have e : n = (((UInt64.ofNat n.toNat).toNat : Nat) : Int) := by rw [UInt64.toNat_ofNat']; omega
  exact given_plain (UInt64.ofNat n.toNat) rfl (fun _ => by show _ = _; rw [← e]) trivial
theorem OpensL.i64 (ht : P.underlying t = some (.int .i64)) (hc : P.cellsOf t = 1) : OpensL P t layI64 1 (fun _ => True) := by
  refine ⟨hc, fun enc W held fuel cs x h k => ?_⟩
  obtain ⟨n, rfl, _, hw⟩ := DataW.trod_int ht h
  have hw : -9223372036854775808 ≤ n ∧ n ≤ 9223372036854775807 := by simpa [Lit.wf, IntKind.min, IntKind.max, IntKind.signed, IntKind.bits] using hw
  have e : (Int64.ofInt n).toInt = n := Int64.toInt_ofInt_of_le (by omega) (by omega)
  exact given_plain (Int64.ofInt n) rfl (fun _ => by show _ = _; rw [e]) trivial
theorem OpensL.string (ht : P.underlying t = some .string) (hc : P.cellsOf t = 1) : OpensL P t layStr 1 (fun a => a.length < 9223372036854775808) := by
  refine ⟨hc, fun enc W held fuel cs x h k => ?_⟩
  obtain ⟨s, rfl, _, hs⟩ := DataW.trod_string ht h
  obtain ⟨l, rfl⟩ := bs_of s
  rw [bs_size] at hs
  exact given_plain l rfl (fun _ => rfl) (Nat.lt_succ_of_le hs)
inductive SlL {α : Type} (L : Lay α) (n : Nat) (h : H) : Value → List α → Prop
  | nil : SlL L n h (.slice none 0 0) []
  | emp (a : Addr) (c : Nat) : SlL L n h (.slice (some a) 0 c) []
  | row (b c : Nat) (l : List α) (cells : List Value) (hg : h.get b = some ⟨cells, n, true⟩) (hl : cells.length = l.length * n) (he : ∀ (j : Nat) (y : α), l[j]? = some y → L h y ((cells.drop (j * n)).take n)) : SlL L n h (.slice (some ⟨b, 0, none⟩) l.length c) l
def laySl {α : Type} (L : Lay α) (n : Nat) : Lay (List α) := fun h l cs => ∃ V, cs = [V] ∧ SlL L n h V l
theorem chunk_append {α : Type} {a b : List α} {n q j : Nat} (ha : a.length = q * n) (hj : j < q) : ((a ++ b).drop (j * n)).take n = (a.drop (j * n)).take n := by
  have : (j + 1) * n ≤ q * n := Nat.mul_le_mul_right n (by omega)
  rw [Nat.add_mul, Nat.one_mul] at this
  rw [List.drop_append_of_le_length (by omega), List.take_append_of_le_length (by rw [List.length_drop]; omega)]
theorem chunk_last {α : Type} {a b : List α} {n q : Nat} (ha : a.length = q * n) (hb : b.length = n) : ((a ++ b).drop (q * n)).take n = b := by
  rw [← ha, List.drop_left, List.take_of_length_le (by omega)]
theorem OpensL.slice {α : Type} {L : Lay α} {n : Nat} {ok : α → Prop} (ht : P.underlying t = some (.slice e)) (hct : P.cellsOf t = 1) (hn : 0 < n) (h : OpensL P e L n ok) : OpensL P t (laySl L n) 1 (fun l => l.length < 9223372036854775808 ∧ ∀ x ∈ l, ok x) := by
  obtain ⟨hc, h⟩ := h
  refine ⟨hct, fun {Hh} enc W held fuel cs x hx k => ?_⟩
  rcases Go.Deep.open_slice ht hx with ⟨rfl, _⟩ | ⟨a, len, cap, m, fu, D, Pl, rfl, hb, hl, hm, hmm, _, hel⟩
  · exact ⟨[], [], [.slice none 0 0], rfl, rfl, fun r _ => ⟨fun p hp => by simp at hp, VL.cons .sl0 (VL.nil r)⟩, fun h _ => ⟨_, rfl, .nil⟩, by simp, by simp⟩
  have hmc : m = cap := by simpa using hmm
  subst hmc
  have hmx : m ≤ 9223372036854775807 := hm
  by_cases hlen : len = 0
  · subst hlen
    by_cases hcap : m = 0
    · subst hcap
      exact ⟨[], [], [.slice (some ⟨0, 0, none⟩) 0 1], rfl, rfl, fun r _ => ⟨fun p hp => by simp at hp, VL.cons (.sl (.inr rfl) (Nat.le_refl _) (by omega) (fun _ => rfl) (fun q => by omega)) (VL.nil r)⟩, fun h _ => ⟨_, rfl, .emp _ _⟩, by simp, by simp⟩
    ·
      obtain ⟨cs0, g0, _⟩ := hel 0 (by omega)
      have g4 := (World.cells?_some g0).2.2 0 (by rw [hc]; exact hn)
      have hl0 := (World.cells?_some g0).2.1
      obtain ⟨v0, hv0⟩ : ∃ v, cs0[0]? = some v := ⟨_, List.getElem?_eq_getElem (by rw [hl0, hc]; exact hn)⟩
      rw [hv0] at g4
      obtain ⟨hs, _⟩ := cell_heap g4
      have hspot : a.spot = none := by
        have : (a.add (0 * P.cellsOf e)).add 0 = a := by rw [Nat.zero_mul]; rfl
        rw [this] at hs; exact hs
      refine ⟨[], [(none, some ⟨a.block, a.off, 0, n⟩)], [.slice (some ⟨k, 0, none⟩) 0 (2 * m + 1)], rfl, rfl, fun r hr => ⟨fun p hp B hB => (by simp at hp; subst hp; cases hB), VL.cons (.sl (.inl ⟨rfl, _, hr 0 _ rfl, ?_⟩) (by omega) (by omega) (fun _ => by omega) (fun q => by omega)) (VL.nil r)⟩, fun h _ => ⟨_, rfl, .emp _ _⟩, by simp, by simp⟩
      obtain ⟨ab, ao, asp⟩ := a
      simp only at hspot; subst hspot; rfl
  have hq : ∀ q, q ≤ len → ∃ (l : List α) (bl : BL) (acs : List Value), l.length = q ∧ acs.length = q * n ∧ acs.all (·.oneCell') = true ∧ (∀ r, CompR r (k + 1) bl → (∀ p ∈ bl, BlkOK W r p) ∧ ∀ j, j < q → ∃ cs', W.cells? 0 (a.add (j * n)) n = some cs' ∧ VL r ((acs.drop (j * n)).take n) cs') ∧
      (∀ h, CompH h (k + 1) bl → ∀ (j : Nat) (y : α), l[j]? = some y → L h y ((acs.drop (j * n)).take n)) ∧ ∀ x ∈ l, ok x := by
    intro q
    induction q with
    | zero => intro _; exact ⟨[], [], [], rfl, by simp, rfl, fun r _ => ⟨fun p hp => by simp at hp, fun j hj => by omega⟩, fun h _ j y hj => by simp at hj, by simp⟩
    | succ q ih =>
      intro hq2
      obtain ⟨l, bl, acs, l1, l2, l3, l4, l5, l6⟩ := ih (by omega)
      obtain ⟨cs', g1, g2⟩ := hel q (by omega)
      rw [hc] at g1
      obtain ⟨y, bl2, acs2, m1, m2, m3, m4, m5⟩ := h enc W held fu cs' _ g2 (k + 1 + bl.length)
      refine ⟨l ++ [y], bl ++ bl2, acs ++ acs2, by simp [l1], by rw [List.length_append, l2, m1, Nat.add_mul, Nat.one_mul], by rw [List.all_append, l3, m2]; rfl, fun r hr => ⟨fun p hp => ?_, fun j hj => ?_⟩, fun h hh j z hj => ?_, fun z hz => ?_⟩
      · rcases List.mem_append.1 hp with hp | hp
        · exact (l4 r hr.left).1 p hp
        · exact (m3 r hr.right).1 p hp
      · by_cases hjq : j < q
        · rw [chunk_append l2 hjq]; exact (l4 r hr.left).2 j hjq
        · have : j = q := by omega
          subst this
          rw [chunk_last l2 m1]; exact ⟨cs', g1, (m3 r hr.right).2⟩
      · have hj2 := (List.getElem?_eq_some_iff.1 hj).1
        rw [List.length_append, l1] at hj2; simp at hj2
        by_cases hjq : j < q
        · rw [List.getElem?_append_left (by omega)] at hj
          rw [chunk_append l2 hjq]; exact l5 h hh.left j z hj
        · have : j = q := by omega
          subst this
          rw [List.getElem?_append_right (by omega), l1, Nat.sub_self] at hj
          simp at hj; subst hj
          rw [chunk_last l2 m1]; exact m4 h hh.right
      · rcases List.mem_append.1 hz with hz | hz
        · exact l6 z hz
        · rw [List.mem_singleton.1 hz]; exact m5
  obtain ⟨l, bl, acs, l1, l2, l3, l4, l5, l6⟩ := hq len (Nat.le_refl _)
  obtain ⟨cs0, g0, _⟩ := hel 0 (by omega)
  have g4 := (World.cells?_some g0).2.2 0 (by rw [hc]; exact hn)
  have hl0 := (World.cells?_some g0).2.1
  obtain ⟨v0, hv0⟩ : ∃ v, cs0[0]? = some v := ⟨_, List.getElem?_eq_getElem (by rw [hl0, hc]; exact hn)⟩
  rw [hv0] at g4
  obtain ⟨hs, c, el, fz, hh, hcell⟩ := cell_heap g4
  rw [(add_block _ _).1, (add_block _ _).1] at hh
  have hspot : a.spot = none := by
    have : (a.add (0 * P.cellsOf e)).add 0 = a := by rw [Nat.zero_mul]; rfl
    rw [this] at hs; exact hs
  have all : ∀ (j : Nat) (cs' : List Value), W.cells? 0 (a.add (j * n)) n = some cs' → ∀ (i : Nat) (v : Value), cs'[i]? = some v → c[a.off + (j * n + i)]? = some v := fun j cs' hy i v hv => by
    obtain ⟨_, q2, q3⟩ := World.cells?_some hy
    have hi : i < n := by have := (List.getElem?_eq_some_iff.1 hv).1; omega
    have q4 := q3 i hi
    rw [hv] at q4
    obtain ⟨_, c2, el2, fz2, hh2, hcell2⟩ := cell_heap q4
    rw [(add_block _ _).1, (add_block _ _).1, hh] at hh2
    cases hh2
    rw [(add_block _ _).2, (add_block _ _).2] at hcell2
    rw [← hcell2]; congr 1; omega
  have hsz : a.off + len * n ≤ c.size := by
    obtain ⟨csl, e1, _⟩ := hel (len - 1) (by omega)
    rw [hc] at e1
    have q2 := (World.cells?_some e1).2.1
    have hv := all (len - 1) csl e1 (n - 1) _ (List.getElem?_eq_getElem (by omega))
    have := (Array.getElem?_eq_some_iff.1 hv).1
    have e2 : (len - 1) * n + n = len * n := by
      obtain ⟨q, rfl⟩ : ∃ q, len = q + 1 := ⟨len - 1, by omega⟩
      simp only [Nat.add_sub_cancel, Nat.add_mul, Nat.one_mul]
    omega
  refine ⟨l, (some ⟨acs, n, true⟩, some ⟨a.block, a.off, len * n, n⟩) :: bl, [.slice (some ⟨k, 0, none⟩) len (2 * m + 1)], rfl, rfl, fun r hr => ?_, fun h hH => ?_, by omega, l6⟩
  · have hr0 : r k = some ⟨a.block, a.off, len * n, n⟩ := hr 0 _ rfl
    have hr1 : CompR r (k + 1) bl := fun i p hp => by rw [Nat.add_assoc, Nat.add_comm 1 i]; exact hr (i + 1) p hp
    obtain ⟨r1, r2⟩ := l4 r hr1
    refine ⟨fun p hp => ?_, VL.cons (.sl (.inl ⟨rfl, _, hr0, ?_⟩) hl (by omega) (fun _ => by omega) (fun q => by omega)) (VL.nil r)⟩
    · rcases List.mem_cons.1 hp with rfl | hp
      · intro B hB
        cases hB
        refine ⟨_, c, el, fz, rfl, hh, rfl, by show acs.length ≤ len * n; omega, hsz, rfl, fun i v hv => ⟨List.all_eq_true.1 l3 v (List.mem_of_getElem? hv), ?_⟩⟩
        have hi := (List.getElem?_eq_some_iff.1 hv).1
        have hv : acs[i]? = some v := hv
        have hi : i < acs.length := hi
        have hj : i / n < len := Nat.div_lt_of_lt_mul (by rw [Nat.mul_comm]; omega)
        have he : i = i / n * n + i % n := by rw [Nat.mul_comm]; exact (Nat.div_add_mod i n).symm
        obtain ⟨cs', s1, s2⟩ := r2 (i / n) hj
        have hk : ((acs.drop (i / n * n)).take n)[i % n]? = some v := by
          rw [List.getElem?_take, if_pos (Nat.mod_lt _ hn), List.getElem?_drop, ← he]; exact hv
        obtain ⟨v', t1, t2⟩ := s2.get hk
        refine ⟨v', ?_, t2⟩
        have := all (i / n) cs' s1 (i % n) v' t1
        rw [← he] at this; exact this
      · exact r1 p hp
    · obtain ⟨ab, ao, asp⟩ := a
      simp only at hspot; subst hspot; rfl
  · have h0 : h.get k = some ⟨acs, n, true⟩ := hH 0 _ rfl _ rfl
    have h1 : CompH h (k + 1) bl := fun i p hp B hB => by rw [Nat.add_assoc, Nat.add_comm 1 i]; exact hH (i + 1) p hp B hB
    refine ⟨_, rfl, ?_⟩
    have := SlL.row (L := L) (n := n) (h := h) k (2 * m + 1) l acs h0 (by rw [l2, l1]) (l5 h h1)
    rw [l1] at this; exact this
def OpensLF (P : Program) (fs : List (TypeId × Nat)) (o : Nat) {α : Type} (L : Lay α) (n : Nat) (ok : α → Prop) : Prop :=
  ∀ {Hh : Type} (enc : TypeId × Value → Hh) (W : World) (held : Bool) (fuel : Nat) (cs : List Value), cs.length = n →
    (∀ f ∈ fs, ∃ x, DataW.trod enc P W 0 (fun _ => true) held fuel f.1 ((cs.drop (f.2 - o)).take (P.cellsOf f.1)) = some x) → ∀ k, Given W k n L ok cs
theorem OpensLF.one {α : Type} {L : Lay α} {n : Nat} {ok : α → Prop} {o : Nat} (h : OpensL P t L n ok) : OpensLF P [(t, o)] o L n ok := by
  intro Hh enc W held fuel cs hl hf
  obtain ⟨x, hx⟩ := hf (t, o) (by simp)
  simp only [Nat.sub_self, List.drop_zero] at hx
  rw [List.take_of_length_le (by rw [h.1]; omega)] at hx
  exact h.2 enc W held fuel cs x hx
def layP {α β : Type} (L : Lay α) (M : Lay β) : Lay (α × β) := fun h x cs => ∃ c1 c2, cs = c1 ++ c2 ∧ L h x.1 c1 ∧ M h x.2 c2
theorem OpensLF.cons {α β : Type} {L : Lay α} {M : Lay β} {n m : Nat} {ok : α → Prop} {ok' : β → Prop} {o o' : Nat} {fs : List (TypeId × Nat)} (ho : o' = o + n) (hfs : ∀ f ∈ fs, o' ≤ f.2) (h : OpensL P t L n ok) (hr : OpensLF P fs o' M m ok') :
    OpensLF P ((t, o) :: fs) o (layP L M) (n + m) (fun x => ok x.1 ∧ ok' x.2) := by
  intro Hh enc W held fuel cs hl hf k
  obtain ⟨x, hx⟩ := hf (t, o) (by simp)
  simp only [Nat.sub_self, List.drop_zero] at hx
  rw [h.1] at hx
  obtain ⟨a, bl, acs, a1, a2, a3, a4, a5⟩ := h.2 enc W held fuel _ x hx k
  obtain ⟨b, bl2, acs2, b1, b2, b3, b4, b5⟩ := hr enc W held fuel (cs.drop n) (by rw [List.length_drop]; omega) (fun f hm => by
    obtain ⟨y, hy⟩ := hf f (by simp [hm])
    have := hfs f hm
    refine ⟨y, ?_⟩
    rw [List.drop_drop, show n + (f.2 - o') = f.2 - o from by omega]
    exact hy) (k + bl.length)
  refine ⟨(a, b), bl ++ bl2, acs ++ acs2, by rw [List.length_append, a1, b1], by rw [List.all_append, a2, b2]; rfl, fun r hr2 => ⟨fun p hp => ?_, ?_⟩, fun h hh => ⟨acs, acs2, rfl, a4 h hh.left, b4 h hh.right⟩, a5, b5⟩
  · rcases List.mem_append.1 hp with hp | hp
    · exact (a3 r hr2.left).1 p hp
    · exact (b3 r hr2.right).1 p hp
  · have := (a3 r hr2.left).2.append (b3 r hr2.right).2
    rwa [List.take_append_drop] at this
def fieldsOf (P : Program) (t : TypeId) : Option (List (TypeId × Nat)) :=
  match P.underlying t with
  | some (.struct fs) => some (fs.toList.map fun f => (f.type, f.offset))
  | _ => none
theorem OpensL.struct {α β : Type} {L : Lay β} {M : Lay α} {n : Nat} {ok : β → Prop} {ok' : α → Prop} {fs : List (TypeId × Nat)} (mk : β → α) (hM : ∀ h b cs, L h b cs → M h (mk b) cs) (hok : ∀ b, ok b → ok' (mk b)) (hfs : fieldsOf P t = some fs) (hc : P.cellsOf t = n) (h : OpensLF P fs 0 L n ok) : OpensL P t M n ok' := by
  refine ⟨hc, fun {Hh} enc W held fuel cs x hx k => ?_⟩
  unfold fieldsOf at hfs
  cases hu : P.underlying t with
  | none => rw [hu] at hfs; cases hfs
  | some u =>
    rw [hu] at hfs
    cases u with
    | struct fa =>
      simp only [Option.some.injEq] at hfs
      obtain ⟨xs, m, _, _, hl, hlen, hget⟩ := DataW.trod_struct hu hx
      obtain ⟨a, bl, acs, a1, a2, a3, a4, a5⟩ := h enc W held m cs (by rw [hl, hc]) (fun g hg => by
        rw [← hfs] at hg
        obtain ⟨fl, hfl, rfl⟩ := List.mem_map.1 hg
        obtain ⟨i, hi, hgi⟩ := List.mem_iff_getElem.1 hfl
        have hia : i < fa.size := by simpa using hi
        have h1 : fa[i]? = some fl := by
          rw [Array.getElem?_eq_getElem hia]
          simpa using hgi
        have h2 := hget i fl h1
        have hix : i < xs.length := by omega
        rw [List.getElem?_eq_getElem hix] at h2
        exact ⟨xs[i], by simpa using h2⟩) k
      exact ⟨mk a, bl, acs, a1, a2, a3, fun h hh => hM h a acs (a4 h hh), hok a a5⟩
    | _ => cases hfs
end
theorem SlL.sl {α : Type} {K : Row α} {h : H} {V : Value} {l : List α} (A : SlL (fun _ y cs => cs = K.cells y) K.n h V l) : K.Sl h V l := by
  cases A with
  | nil => exact .nil
  | emp a c => exact .emp a c
  | row b c l cells hg hl he =>
    have e : cells = K.flat l := by
      apply List.ext_getElem?
      intro i
      by_cases hi : i < cells.length
      · have hj : i / K.n < l.length := Nat.div_lt_of_lt_mul (by rw [Nat.mul_comm]; omega)
        have hi2 : i = i / K.n * K.n + i % K.n := by rw [Nat.mul_comm]; exact (Nat.div_add_mod i K.n).symm
        have h1 := he (i / K.n) _ (List.getElem?_eq_getElem hj)
        have h2 := K.flat_get l (i / K.n) _ (List.getElem?_eq_getElem hj)
        have h3 := congrArg (fun z : List Value => z[i % K.n]?) (h1.trans h2.symm)
        simp only [List.getElem?_take, if_pos (Nat.mod_lt i K.pos), List.getElem?_drop] at h3
        rw [← hi2] at h3; exact h3
      · rw [List.getElem?_eq_none (by omega), List.getElem?_eq_none (by rw [K.flat_length]; omega)]
    subst e
    exact .own hg
theorem rel_bl {W : World} {bl : BL} (hb : ∀ p ∈ bl, BlkOK W (rhoL (bl.map Prod.snd)) p) : Rel W.heap.size (rhoL (bl.map Prod.snd)) (args (bl.map Prod.fst)) W := by
  have pick : ∀ k B, (args (bl.map Prod.fst)).get k = some B → ∃ p, bl[k]? = some p ∧ p.1 = some B := fun k B e => by
    rw [args_get, List.getElem?_map] at e
    cases ho : bl[k]? with
    | none => rw [ho] at e; cases e
    | some p => rw [ho] at e; exact ⟨p, rfl, by simpa using e⟩
  have loc : ∀ k p, bl[k]? = some p → rhoL (bl.map Prod.snd) k = p.2 := fun k p e => by simp [rhoL, List.getElem?_map, e]
  refine ⟨fun k B e => ?_, fun n m Bn Bm L M e1 e2 hne hro => ?_, fun n hn => ?_, Nat.le_refl _, fun n B L e hro hL => ?_, fun n B L c el fz q1 q2 => ?_⟩
  · obtain ⟨p, h1, h2⟩ := pick k B e
    obtain ⟨L, c, el, fz, g1, g2, g3, g4, g5, g6, g7⟩ := hb p (List.mem_of_getElem? h1) B h2
    exact ⟨L, c, el, fz, by rw [loc k p h1, g1], g2, g3, g4, g5, fun q => by (rw [g6] at q; cases q), g7⟩
  · obtain ⟨p, h1, h2⟩ := pick n Bn e1
    obtain ⟨_, _, _, _, _, _, _, _, _, g6, _⟩ := hb p (List.mem_of_getElem? h1) Bn h2
    rw [g6] at hro; cases hro
  · rw [args_next, List.length_map] at hn
    simp [rhoL, List.getElem?_eq_none (show bl.length ≤ n by omega)]
  · obtain ⟨p, h1, h2⟩ := pick n B e
    obtain ⟨L', c, el, fz, g1, g2, _⟩ := hb p (List.mem_of_getElem? h1) B h2
    rw [loc n p h1, g1] at hL; cases hL
    exact (Array.getElem?_eq_some_iff.1 g2).1
  · obtain ⟨p, h1, h2⟩ := pick n B q1
    obtain ⟨_, _, _, _, _, _, _, _, _, g6, _⟩ := hb p (List.mem_of_getElem? h1) B h2
    rw [g6] at q2; cases q2
theorem compR_rho (bl : BL) : CompR (rhoL (bl.map Prod.snd)) 0 bl := fun i p hp => by simp [rhoL, List.getElem?_map, hp]
theorem compH_args (bl : BL) : CompH (args (bl.map Prod.fst)) 0 bl := fun i p hp B hB => by
  rw [args_get, List.getElem?_map, Nat.zero_add, hp]; simp [hB]
theorem wf_args (bl : BL) : Mem (args (bl.map Prod.fst)) (args (bl.map Prod.fst)) [] [] := Mem.start fun n B e => by
  rw [args_get] at e; rw [args_next]
  rcases Nat.lt_or_ge n (bl.map Prod.fst).length with q | q
  · exact q
  · rw [List.getElem?_eq_none q] at e; cases e
def GivenA (W : World) (k : Nat) (us us' : List Value) (bl : BL) : Prop := ∀ r, CompR r k bl → (∀ p ∈ bl, BlkOK W r p) ∧ VL r us us'
theorem GivenA.nil {W : World} {k : Nat} : GivenA W k [] [] [] := fun r _ => ⟨fun p hp => by simp at hp, VL.nil r⟩
theorem GivenA.cons {W : World} {k : Nat} {u u' : Value} {us us' : List Value} {bl bl2 : BL} (h1 : ∀ r, CompR r k bl → (∀ p ∈ bl, BlkOK W r p) ∧ VR r u u') (h2 : GivenA W (k + bl.length) us us' bl2) : GivenA W k (u :: us) (u' :: us') (bl ++ bl2) := fun r hr =>
  ⟨fun p hp => (List.mem_append.1 hp).elim ((h1 r hr.left).1 p) ((h2 r hr.right).1 p), VL.cons (h1 r hr.left).2 (h2 r hr.right).2⟩
theorem given_one {W : World} {k : Nat} {bl : BL} {u v : Value} (h : ∀ r, CompR r k bl → (∀ p ∈ bl, BlkOK W r p) ∧ VL r [u] [v]) : ∀ r, CompR r k bl → (∀ p ∈ bl, BlkOK W r p) ∧ VR r u v := fun r hr =>
  ⟨(h r hr).1, (h r hr).2.2 0 u v rfl rfl⟩
theorem one_of {l : List Value} (h : l.length = 1) : ∃ u, l = [u] := by
  match l, h with
  | [u], _ => exact ⟨u, rfl⟩
theorem law_calls {P : Program} {tab : Nat → Option FD} (hD : DrawOK P) (hT : TabOK P tab) {f : Nat} {W : World} {bl : BL} {us us' : List Value} (hb : ∀ r, CompR r 0 bl → (∀ p ∈ bl, BlkOK W r p) ∧ VL r us us')
    (hw : Cll tab f us (args (bl.map Prod.fst)) (fun v _ => v = .bool true)) : Calls P f us'.toArray W fun e W' => e = .returned (.bool true) ∧ Go.RowKit.Below W.heap.size W W' := by
  obtain ⟨v, h2, ⟨n, hr⟩, rfl⟩ := hw
  obtain ⟨b1, b2⟩ := hb _ (compR_rho bl)
  have R := rel_bl b1
  refine (run_table hD hT n f W.heap.size _ _ W us us' _ _ hr b2 R).2.mono fun e W' he => ?_
  obtain ⟨r2, v', rfl, hv, _, F, _⟩ := he
  cases hv
  exact ⟨rfl, F.below R⟩
end Go.Proofs.Ytkfjlbdedjoojaa.Am
namespace Go.Proofs.Ytkfjlbdedjoojaa.Wt
open Go Go.Proofs.Ytkfjlbdedjoojaa.Am Go.Proofs.Ytkfjlbdedjoojaa.IrAll
set_option linter.unusedVariables false
set_option linter.unusedSimpArgs false
structure Ac where
  d : UInt8
  ky : List UInt8
  va : List UInt8
  ls : UInt64
  ps : List PtI
  psp : Option Addr × Nat
  n : Int64
def Ac.cells (x : Ac) : List Value := [(.int .u8 (((x.d).toNat : Nat) : Int)), (.string (bs x.ky)), (.string (bs x.va)), (.int .u64 (((x.ls).toNat : Nat) : Int)), (.slice x.psp.1 x.ps.length x.psp.2), (.int .i64 (x.n).toInt)]
def KAc : Row Ac := ⟨Ac.cells, 6, fun _ => rfl, by decide, fun _ => rfl⟩
variable {h base h2 : H} {L : List Seg} {R : List Nat}
def Ac.sv (y : Ac) : Value := .slice y.psp.1 y.ps.length y.psp.2
theorem OpensL.re {P : Program} {t : TypeId} {α β : Type} {L : Lay α} {L' : Lay β} {n : Nat} {ok : α → Prop} {ok' : β → Prop} (g : α → List Value → β) (h : OpensL P t L n ok) (hL : ∀ h a cs, L h a cs → L' h (g a cs) cs) (hok : ∀ a cs, ok a → ok' (g a cs)) : OpensL P t L' n ok' :=
  ⟨h.1, fun enc W held fuel cs x e k => by
    obtain ⟨a, bl, acs, h1, h2, h3, h4, h5⟩ := h.2 enc W held fuel cs x e k
    exact ⟨g a acs, bl, acs, h1, h2, h3, fun hh c => hL _ _ _ (h4 hh c), hok _ _ h5⟩⟩
def layAct : Lay Ac := fun h a cs => cs = KAc.cells a ∧ KPtI.Sl h a.sv a.ps
def spOf : Option Value → Option Addr × Nat
  | some (.slice P _ c) => (P, c)
  | _ => (none, 0)
structure A0 where
  d : UInt8
  ky : List UInt8
  va : List UInt8
  ls : UInt64
  ps : List PtI
  n : Int64
def actOf (x : A0) (cs : List Value) : Ac := ⟨x.d, x.ky, x.va, x.ls, x.ps, spOf cs[4]?, x.n⟩
theorem actOf_lay (h : H) (x : A0) (cs : List Value) (q : ∃ V, cs = [.int .u8 ((x.d.toNat : Nat) : Int), .string (bs x.ky), .string (bs x.va), .int .u64 ((x.ls.toNat : Nat) : Int), V, .int .i64 x.n.toInt] ∧ SlL (fun _ y cs => cs = KPtI.cells y) 3 h V x.ps) : layAct h (actOf x cs) cs := by
  obtain ⟨V, rfl, hS⟩ := q
  have A : KPtI.Sl h V x.ps := SlL.sl (K := KPtI) hS
  obtain ⟨P, c, rfl⟩ := A.shape
  exact ⟨rfl, A⟩
theorem opens_5 : OpensL Try.prog 5 layU8 1 (fun _ => True) := OpensL.u8 Try.underlying5 (by kernel_rfl)
theorem opens_9 : OpensL Try.prog 9 layStr 1 (fun a => a.length < 9223372036854775808) := OpensL.string Try.underlying9 (by kernel_rfl)
set_option maxRecDepth 100000 in
theorem opens_61 : OpensL Try.prog 61 (α := PtI) (fun _ y cs => cs = KPtI.cells y) 3 (fun y => y.ky.length < 9223372036854775808 ∧ y.va.length < 9223372036854775808) := by
  refine OpensL.struct (fs := [(5, 0), (9, 1), (9, 2)]) (L := (layP layU8 (layP layStr layStr))) (mk := fun (op, ky, va) => ⟨op, ky, va⟩) ?_ ?_ (by kernel_rfl) (by kernel_rfl) (OpensLF.cons (by decide) (by decide) opens_5 (OpensLF.cons (by decide) (by decide) opens_9 (OpensLF.one opens_9)))
  · rintro h ⟨op, ky, va⟩ cs ⟨_, _, rfl, rfl, ⟨_, _, rfl, rfl, rfl⟩⟩
    rfl
  · rintro ⟨op, ky, va⟩ ⟨k0, k1, k2⟩
    exact ⟨k1, k2⟩
theorem opens_33 : OpensL Try.prog 33 (laySl (fun _ y cs => cs = KPtI.cells y) 3) 1 (fun l => l.length < 9223372036854775808 ∧ ∀ x ∈ l, (fun y => y.ky.length < 9223372036854775808 ∧ y.va.length < 9223372036854775808) x) := OpensL.slice Try.underlying33 (by kernel_rfl) (by decide) opens_61
theorem opens_28 : OpensL Try.prog 28 layU64 1 (fun _ => True) := OpensL.u64 Try.underlying28 (by kernel_rfl)
theorem opens_3 : OpensL Try.prog 3 layI64 1 (fun _ => True) := OpensL.i64 Try.underlying3 (by kernel_rfl)
set_option maxRecDepth 100000 in
theorem opens0_35 : OpensL Try.prog 35 (α := A0) (fun h x cs => ∃ V, cs = [.int .u8 ((x.d.toNat : Nat) : Int), .string (bs x.ky), .string (bs x.va), .int .u64 ((x.ls.toNat : Nat) : Int), V, .int .i64 x.n.toInt] ∧ SlL (fun _ y cs => cs = KPtI.cells y) 3 h V x.ps) 6 (fun x => x.ky.length < 9223372036854775808 ∧ x.va.length < 9223372036854775808 ∧ x.ps.length < 9223372036854775808 ∧ ∀ p ∈ x.ps, p.ky.length < 9223372036854775808 ∧ p.va.length < 9223372036854775808) := by
  refine OpensL.struct (fs := [(5, 0), (9, 1), (9, 2), (28, 3), (33, 4), (3, 5)]) (L := (layP layU8 (layP layStr (layP layStr (layP layU64 (layP (laySl (fun _ y cs => cs = KPtI.cells y) 3) layI64)))))) (mk := fun (d, ky, va, ls, ps, n) => ⟨d, ky, va, ls, ps, n⟩) ?_ ?_ (by kernel_rfl) (by kernel_rfl) (OpensLF.cons (by decide) (by decide) opens_5 (OpensLF.cons (by decide) (by decide) opens_9 (OpensLF.cons (by decide) (by decide) opens_9 (OpensLF.cons (by decide) (by decide) opens_28 (OpensLF.cons (by decide) (by decide) opens_33 (OpensLF.one opens_3))))))
  · rintro h ⟨d, ky, va, ls, ps, n⟩ cs ⟨_, _, rfl, rfl, ⟨_, _, rfl, rfl, ⟨_, _, rfl, rfl, ⟨_, _, rfl, rfl, ⟨_, _, rfl, ⟨V, rfl, hS⟩, rfl⟩⟩⟩⟩⟩
    exact ⟨V, rfl, hS⟩
  · rintro ⟨d, ky, va, ls, ps, n⟩ ⟨k0, k1, k2, k3, k4, k5⟩
    exact ⟨k1, k2, k4⟩
theorem opens_35 : OpensL Try.prog 35 (α := Ac) layAct 6 (fun a => a.ky.length < 9223372036854775808 ∧ a.va.length < 9223372036854775808 ∧ a.ps.length < 9223372036854775808 ∧ ∀ p ∈ a.ps, p.ky.length < 9223372036854775808 ∧ p.va.length < 9223372036854775808) := OpensL.re actOf opens0_35 actOf_lay (fun _ _ k => k)
theorem opens_22 : OpensL Try.prog 22 (laySl layAct 6) 1 (fun l => l.length < 9223372036854775808 ∧ ∀ x ∈ l, (fun a => a.ky.length < 9223372036854775808 ∧ a.va.length < 9223372036854775808 ∧ a.ps.length < 9223372036854775808 ∧ ∀ p ∈ a.ps, p.ky.length < 9223372036854775808 ∧ p.va.length < 9223372036854775808) x) := OpensL.slice Try.underlying22 (by kernel_rfl) (by decide) opens_35
theorem SlL.acts {V : Value} {l : List Ac} (A : SlL layAct 6 h V l) : KAc.Sl h V l ∧ ∀ a ∈ l, KPtI.Sl h a.sv a.ps := by
  cases A with
  | nil => exact ⟨.nil, fun a q => by simp at q⟩
  | emp a c => exact ⟨.emp a c, fun a q => by simp at q⟩
  | row b c l cells hg hl he =>
    refine ⟨SlL.sl (K := KAc) (.row b c l cells hg hl fun j y hy => (he j y hy).1), fun a ha => ?_⟩
    obtain ⟨j, hj, rfl⟩ := List.mem_iff_getElem.1 ha
    exact (he j _ (List.getElem?_eq_getElem hj)).2
def doK (s : KS) (a : Ac) : KS × Int × List RwI :=
  if a.d.toNat = 0 then ((putK s a.ky a.va a.ls).1, ((putK s a.ky a.va a.ls).2 : Nat), [])
  else if a.d.toNat = 1 then ((delK s a.ky).1, ((delK s a.ky).2 : Nat), [])
  else if a.d.toNat = 2 then ((batK s a.ps).1, ((batK s a.ps).2 : Nat), [])
  else if a.d.toNat = 3 then ((endK s a.ls).1, ((endK s a.ls).2 : Nat), [])
  else if a.d.toNat = 4 then (s, if (getV s.F a.ky).2 = true then (((getV s.F a.ky).1.lea.toNat % 65536 : Nat) : Int) else -1, [getR s.F a.ky])
  else if a.d.toNat = 5 then (s, 0, (rangeF s.F a.ky a.va a.n.toInt).map toRw)
  else (s, 0, [])
structure KFit (s : KS) (n v z : Nat) : Prop where
  good : KGood s
  n : s.F.length ≤ n
  v : s.v ≤ v
  z : szF s.F ≤ z
theorem KFit.mono {s : KS} {n v z n2 v2 z2 : Nat} (h : KFit s n v z) (h1 : n ≤ n2) (h2 : v ≤ v2) (h3 : z ≤ z2) : KFit s n2 v2 z2 := ⟨h.good, Nat.le_trans h.n h1, Nat.le_trans h.v h2, Nat.le_trans h.z h3⟩
theorem put_fit {s : KS} {n v z : Nat} {key val : List UInt8} {ls : UInt64} (h : KFit s n v z) (hv : v + 1 < 18446744073709551616) : KFit (putK s key val ls).1 (n + 1) (v + 1) (z + (key.length + val.length)) := by
  have hg := put_grow (key := key) (val := val) (ls := ls) h.good.ok
  have h1 := h.n; have h2 := h.v; have h3 := h.z
  refine ⟨⟨put_ok h.good.ok, ?_, by omega⟩, by omega, by omega, ?_⟩
  · unfold putK
    split
    · exact h.good.vn
    · intro y hy
      rcases mem_put hy with rfl | q
      · have : (UInt64.ofNat (s.v + 1)).toNat = s.v + 1 := u64_back (by omega)
        exact ⟨by show 1 ≤ (UInt64.ofNat (s.v + 1)).toNat; omega, by show (UInt64.ofNat (s.v + 1)).toNat ≤ s.v + 1; omega⟩
      · have := h.good.vn y q; exact ⟨this.1, Nat.le_succ_of_le this.2⟩
  · unfold putK
    split
    · show szF s.F ≤ _; omega
    · have e := sz_cost (it := ⟨key, val, UInt64.ofNat (s.v + 1), ls⟩) h.good.ok.srt
      have c := (cost_hi (F := s.F) (key := key) (val := val)).2
      show szF (putF s.F _) ≤ _
      have e2 : ((szF (putF s.F ⟨key, val, UInt64.ofNat (s.v + 1), ls⟩) : Nat) : Int) = (szF s.F : Nat) + (costK s.F key val).2 := e
      omega
theorem del_fit {s : KS} {n v z : Nat} {key : List UInt8} (h : KFit s n v z) (hv : v + 1 < 18446744073709551616) : KFit (delK s key).1 n (v + 1) z := by
  have hg := del_grow (s := s) (key := key)
  have h1 := h.n; have h2 := h.v; have h3 := h.z
  refine ⟨⟨del_ok h.good.ok, ?_, by omega⟩, by omega, by omega, ?_⟩
  · unfold delK
    split
    · intro y hy
      have := h.good.vn y (List.mem_filter.1 hy).1; exact ⟨this.1, Nat.le_succ_of_le this.2⟩
    · exact h.good.vn
  · unfold delK
    split
    · rename_i c; have := sz_gone h.good.ok.srt c; show szF (delF s.F key) ≤ z; omega
    · exact h3
def sumP (l : List PtI) : Nat := (l.map fun p => p.ky.length + p.va.length).sum
theorem bat_fit {s0 : KS} : ∀ {ps : List PtI} {t : KS} {n v z : Nat}, KFit s0 n v z → KFit t n v z → v + ps.length < 18446744073709551616 → KFit (batG s0 t ps).1 (n + ps.length) (v + ps.length) (z + sumP ps) := by
  intro ps
  induction ps with
  | nil => intro t n v z h0 h _; exact h
  | cons p ps ih =>
    intro t n v z h0 h hv
    have es : sumP (p :: ps) = (p.ky.length + p.va.length) + sumP ps := by simp [sumP]
    rw [List.length_cons] at hv ⊢
    rw [es]
    unfold batG
    split
    · exact (ih (h0.mono (Nat.le_refl _) (Nat.le_succ v) (Nat.le_refl _)) (del_fit h (by omega)) (by omega)).mono (by omega) (by omega) (by omega)
    · split
      · exact h0.mono (by omega) (by omega) (by omega)
      · exact (ih (h0.mono (Nat.le_succ n) (Nat.le_succ v) (Nat.le_add_right z _)) (put_fit h (by omega)) (by omega)).mono (by omega) (by omega) (by omega)
theorem end_fit {s : KS} {n v z : Nat} {ls : UInt64} (h : KFit s n v z) (hv : v + n < 18446744073709551616) : KFit (endK s ls).1 n (v + n) z ∧ (endK s ls).2 ≤ n := by
  unfold endK
  split
  · exact ⟨h.mono (Nat.le_refl _) (by omega) (Nat.le_refl _), Nat.zero_le _⟩
  · have : ∀ (l : List It) (t : KS) (c : Nat), KFit t n (v + c) z → c + l.length ≤ n → KFit (l.foldl (endS ls) (t, c)).1 n (v + n) z ∧ (l.foldl (endS ls) (t, c)).2 ≤ n := by
      intro l
      induction l with
      | nil => intro t c h hc; exact ⟨h.mono (Nat.le_refl _) (by simp at hc; omega) (Nat.le_refl _), by simpa using hc⟩
      | cons x l ih =>
        intro t c h hc
        rw [List.length_cons] at hc
        rw [List.foldl_cons]
        unfold endS
        split
        · exact ih _ _ ((del_fit h (by omega)).mono (Nat.le_refl _) (by omega) (Nat.le_refl _)) (by omega)
        · exact ih _ _ h (by omega)
    exact this s.F s 0 h (by have := h.n; omega)
def sizeA (a : Ac) : Nat := a.ky.length + a.va.length + sumP a.ps
theorem do_fit {s : KS} {n v z : Nat} {a : Ac} (h : KFit s n v z) (hv : v + n + 10 < 18446744073709551616) (hp : a.ps.length ≤ 10) : KFit (doK s a).1 (n + 10) (v + n + 10) (z + sizeA a) := by
  unfold doK sizeA
  split
  · exact (put_fit h (by omega)).mono (by omega) (by omega) (by omega)
  · split
    · exact (del_fit h (by omega)).mono (by omega) (by omega) (by omega)
    · split
      · exact (bat_fit h h (by omega)).mono (by omega) (by omega) (by omega)
      · split
        · exact (end_fit h (by omega)).1.mono (by omega) (by omega) (by omega)
        · split
          · exact h.mono (by omega) (by omega) (by omega)
          · split
            · exact h.mono (by omega) (by omega) (by omega)
            · exact h.mono (by omega) (by omega) (by omega)
end Go.Proofs.Ytkfjlbdedjoojaa.Wt
namespace Go.Proofs.Ytkfjlbdedjoojaa.Wt
open Go Go.Proofs.Ytkfjlbdedjoojaa.Am Go.Proofs.Ytkfjlbdedjoojaa.IrAll
open Go.Proofs.Ytkfjlbdedjoojaa.Am.WS renaming op → C
open Go.Proofs.Ytkfjlbdedjoojaa.Am.WS renaming off → D
set_option linter.unusedVariables false
set_option linter.unusedSimpArgs false
variable {h base h2 : H} {L : List Seg} {R : List Nat}
theorem awake16_ran (W : Mem h h [] []) : Cll tab0 10 [] h (fun v h2 => v = .bool true ∧ Mem h h2 [] []) := ⟨_, h, awake_run h, rfl, W⟩
def sumA (l : List Ac) : Nat := (l.map sizeA).sum
theorem sumA_snoc {l : List Ac} {i : Nat} {y : Ac} (hy : l[i]? = some y) : sumA (l.take (i + 1)) = sumA (l.take i) + sizeA y := by
  unfold sumA; rw [take_map hy]; simp
theorem sumP_snoc {l : List PtI} {i : Nat} {y : PtI} (hy : l[i]? = some y) : sumP (l.take (i + 1)) = sumP (l.take i) + (y.ky.length + y.va.length) := by
  unfold sumP; rw [take_map hy]; simp
def OkA (a : Ac) : Prop := a.ky.length ≤ 12000 ∧ a.va.length ≤ 12000 ∧ a.ps.length ≤ 10 ∧ ∀ p ∈ a.ps, p.ky.length ≤ 12000 ∧ p.va.length ≤ 12000
theorem mem_snoc {α : Type} {l : List α} {i : Nat} {y : α} {Q : α → Prop} (hy : l[i]? = some y) (h : ∀ x ∈ l.take i, Q x) (hq : Q y) : ∀ x ∈ l.take (i + 1), Q x := by
  intro x hx
  rw [List.take_add_one, hy] at hx
  rcases List.mem_append.1 hx with q | q
  · exact h x q
  · simp at q; subst q; exact hq
set_option maxRecDepth 8000 in
theorem Great16_ran (W : Mem h h [] []) {V : Value} {l : List Ac} (A : KAc.Sl h V l) (hQ : ∀ a ∈ l, KPtI.Sl h a.sv a.ps) (hb : l.length < 9223372036854775808) : Cll tab0 9 [V] h (fun v h2 => ∃ g, v = .bool g ∧ (g = false → l.length ≤ 80 ∧ (∀ a ∈ l, OkA a) ∧ sumA l ≤ 12000) ∧ Mem h h2 [] []) := by
  obtain ⟨Pl, nl, rfl⟩ := A.shape
  refine Cll.code rfl rfl ?_
  refine WC.env [(0, _)] rfl ?_
  refine WC.seq (WC.run (C rfl rfl (WS.nil [(0, _)] rfl ?_)))
  refine WC.seq (WC.seq (WC.run (C rfl rfl (C rfl (op_lenVS A rfl) ?_))))
  refine WS.gtrN (a := (l).length) (b := 80) rfl rfl rfl (fun e8 => ?_) (fun e8 => ?_)
  ·
   refine WS.nil [(0, _), (8, _)] rfl ?_
   refine WC.condT rfl (WC.seq (WC.run (C rfl rfl (WS.nil [(2, _)] rfl ?_))))
   refine WC.ret (⟨[_], (res_tmp rfl res_nil), ?_⟩)
   exact ⟨true, rfl, fun q => (nomatch q), W.bare.take 0⟩
  ·
   refine WS.nil [(0, _), (8, _)] rfl ?_
   refine WC.condF rfl (WC.skip (WC.seq (WC.run (C rfl rfl (WS.nil [(0, _), (3, _)] rfl ?_)))))
   refine WC.seq (WC.seq (WC.run (C rfl rfl (WS.nil [(0, _), (3, _), (4, _)] rfl ?_))))
   refine WC.block ?_
   obtain ⟨L1, eL3, M2⟩ := Mem.name W.bare
   refine WC.loop (σ := Nat × Nat) (fun ((n, i)) => [(0, (.slice Pl l.length nl)), (3, (.int .i64 ((n : Nat) : Int))), (4, (.int .i64 ((i : Nat) : Int)))]) (fun ((n, i)) hh => Mem h hh (L1) [] ∧ n = sumA (l.take i) ∧ i ≤ l.length ∧ n ≤ 300000 * i ∧ ∀ a ∈ l.take i, OkA a) (fun ((n, i)) => l.length - i) (0, 0) rfl ⟨M2, ?_⟩ ?_
   · exact ⟨rfl, by omega, by omega, by simp⟩
   ·rintro ⟨n, i⟩ h4 ⟨M5, ⟨hn, hi, hnb, hO⟩⟩
    replace eL3 := eL3.symm; subst eL3
    refine WC.env [(0, _), (3, _), (4, _)] rfl ?_
    refine WC.seq (WC.seq (WC.run (C rfl rfl (C rfl rfl (C rfl (op_lenVS A rfl) ?_)))))
    refine WS.lssN (a := i) (b := (l).length) rfl rfl rfl (fun e12 => ?_) (fun e12 => ?_)
    ·
     refine WS.nil [(0, _), (3, _), (4, _), (12, _)] rfl ?_
     refine WC.condT rfl (WC.skip (WC.seq (WC.block (WC.seq (WC.seq (WC.run (C rfl rfl (C rfl rfl ?_))))))))
     obtain ⟨y17, hy17⟩ : ∃ y, (l)[i]? = some y := ⟨_, List.getElem?_eq_getElem (show i < (l).length by first | omega | (simp only [List.length_drop, List.length_take, List.length_append, List.length_cons, List.length_nil, List.length_singleton]; omega) | (simp only [List.length_drop, List.length_take, List.length_append, List.length_cons, List.length_nil, List.length_singleton] at *; omega))⟩
     refine WS.iaVS A i hy17 rfl rfl rfl rfl ?_
     intro b17_ o17_ ha17
     refine C rfl rfl (C rfl (op_ldH rfl (At.ld (k := 1) (ha17.mono M5.sub) rfl)) (C rfl (op_lenS (l := y17.ky) rfl) ?_))
     refine WS.gtrN (a := (y17.ky).length) (b := 12000) rfl rfl rfl (fun e21 => ?_) (fun e21 => ?_)
     ·
      refine C rfl rfl (D rfl (D rfl (D rfl (D rfl (D rfl (D rfl (D rfl (C rfl rfl (C rfl rfl ?_)))))))))
      refine D rfl (D rfl (D rfl (D rfl (D rfl (D rfl (D rfl (C rfl rfl (WS.nil [(0, _), (3, _), (4, _), (39, _)] rfl ?_))))))))
      refine WC.condT rfl (WC.seq (WC.run (C rfl rfl (WS.nil [(2, _)] rfl ?_))))
      refine WC.ret (⟨[_], (res_tmp rfl res_nil), ?_⟩)
      exact ⟨true, rfl, fun q => (nomatch q), M5.bare.take 0⟩
     ·
      refine C rfl rfl (C rfl rfl (C rfl rfl ?_))
      refine WS.iaVS A i hy17 rfl rfl rfl rfl ?_
      intro b25_ o25_ ha25
      refine C rfl rfl (C rfl (op_ldH rfl (At.ld (k := 2) (ha25.mono M5.sub) rfl)) (C rfl (op_lenS (l := y17.va) rfl) ?_))
      refine WS.gtrN (a := (y17.va).length) (b := 12000) rfl rfl rfl (fun e29 => ?_) (fun e29 => ?_)
      ·
       refine C rfl rfl (C rfl rfl (D rfl (D rfl (D rfl (D rfl (D rfl (D rfl (D rfl (C rfl rfl ?_)))))))))
       refine WS.nil [(0, _), (3, _), (4, _), (39, _)] rfl ?_
       refine WC.condT rfl (WC.seq (WC.run (C rfl rfl (WS.nil [(2, _)] rfl ?_))))
       refine WC.ret (⟨[_], (res_tmp rfl res_nil), ?_⟩)
       exact ⟨true, rfl, fun q => (nomatch q), M5.bare.take 0⟩
      ·
       refine C rfl rfl (C rfl rfl (C rfl rfl (C rfl rfl ?_)))
       refine WS.iaVS A i hy17 rfl rfl rfl rfl ?_
       intro b34_ o34_ ha34
       refine C rfl rfl (C rfl (op_ldH rfl (At.ld (k := 4) (ha34.mono M5.sub) rfl)) (C rfl (op_lenVS (hQ _ (List.mem_of_getElem? hy17)) rfl) ?_))
       refine WS.gtrN (a := (y17.ps).length) (b := 10) rfl rfl rfl (fun e38 => ?_) (fun e38 => ?_)
       ·
        refine C rfl rfl (WS.nil [(0, _), (3, _), (4, _), (39, _)] rfl ?_)
        refine WC.condT rfl (WC.seq (WC.run (C rfl rfl (WS.nil [(2, _)] rfl ?_))))
        refine WC.ret (⟨[_], (res_tmp rfl res_nil), ?_⟩)
        exact ⟨true, rfl, fun q => (nomatch q), M5.bare.take 0⟩
       ·
        refine C rfl rfl (WS.nil [(0, _), (3, _), (4, _), (39, _)] rfl ?_)
        refine WC.condF rfl (WC.skip (WC.seq (WC.draw M5 [] rfl ?_)))
        intro rb6 h7 M8
        refine C rfl rfl (C rfl rfl (C rfl rfl ?_))
        refine WS.iaVS A i hy17 rfl rfl rfl rfl ?_
        intro b43_ o43_ ha43
        refine C rfl rfl (C rfl (op_ldH rfl (At.ld (k := 1) (ha43.mono M8.sub) rfl)) (C rfl (op_lenS (l := y17.ky) rfl) (WS.opV (.int .i64 (((n + (y17.ky).length) : Nat) : Int)) rfl rfl (add_i64 (a := n) (b := (y17.ky).length) (by omega)) (C rfl rfl (C rfl rfl ?_)))))
        refine WS.iaVS A i hy17 rfl rfl rfl rfl ?_
        intro b50_ o50_ ha50
        refine C rfl rfl (C rfl (op_ldH rfl (At.ld (k := 2) (ha50.mono M8.sub) rfl)) (C rfl (op_lenS (l := y17.va) rfl) (WS.opV (.int .i64 ((((n + (y17.ky).length) + (y17.va).length) : Nat) : Int)) rfl rfl (add_i64 (a := (n + (y17.ky).length)) (b := (y17.va).length) (by omega)) (C rfl rfl (WS.nil [(0, _), (3, _), (4, _)] rfl ?_)))))
        refine WC.seq (WC.run (C rfl rfl (WS.nil [(0, _), (3, _), (4, _), (5, _)] rfl ?_)))
        refine WC.block ?_
        obtain ⟨L9, eL11, M10⟩ := Mem.name M8.bare.bare
        refine WC.loop (σ := Nat × Nat) (fun ((m, k)) => [(0, (.slice Pl l.length nl)), (3, (.int .i64 ((m : Nat) : Int))), (4, (.int .i64 ((i : Nat) : Int))), (5, (.int .i64 ((k : Nat) : Int)))]) (fun ((m, k)) hh => Mem h hh (L9) [] ∧ m = n + (y17.ky.length + y17.va.length) + sumP (y17.ps.take k) ∧ k ≤ y17.ps.length ∧ sumP (y17.ps.take k) ≤ 24000 * k ∧ ∀ p ∈ y17.ps.take k, p.ky.length ≤ 12000 ∧ p.va.length ≤ 12000) (fun ((m, k)) => y17.ps.length - k) (((n + (y17.ky).length) + (y17.va).length), 0) rfl ⟨M10, ?_⟩ ?_
        · exact ⟨by simp [sumP]; omega, by omega, by simp [sumP], by simp⟩
        ·rintro ⟨m, k⟩ h12 ⟨M13, ⟨hm, hk, hmb, hP⟩⟩
         replace eL11 := eL11.symm; subst eL11
         refine WC.env [(0, _), (3, _), (4, _), (5, _)] rfl ?_
         refine WC.seq (WC.seq (WC.run (C rfl rfl (C rfl rfl (C rfl rfl ?_)))))
         refine WS.iaVS A i hy17 rfl rfl rfl rfl ?_
         intro b58_ o58_ ha58
         refine C rfl rfl (C rfl (op_ldH rfl (At.ld (k := 4) (ha58.mono M13.sub) rfl)) (C rfl (op_lenVS (hQ _ (List.mem_of_getElem? hy17)) rfl) ?_))
         refine WS.lssN (a := k) (b := (y17.ps).length) rfl rfl rfl (fun e62 => ?_) (fun e62 => ?_)
         ·
          refine WS.nil [(0, _), (3, _), (4, _), (5, _), (62, _)] rfl ?_
          refine WC.condT rfl (WC.skip (WC.seq (WC.block (WC.seq (WC.seq (WC.run (C rfl rfl (C rfl rfl ?_))))))))
          refine WS.iaVS A i hy17 rfl rfl rfl rfl ?_
          intro b67_ o67_ ha67
          refine C rfl rfl (C rfl (op_ldH rfl (At.ld (k := 4) (ha67.mono M13.sub) rfl)) (C rfl rfl ?_))
          obtain ⟨y71, hy71⟩ : ∃ y, (y17.ps)[k]? = some y := ⟨_, List.getElem?_eq_getElem (show k < (y17.ps).length by first | omega | (simp only [List.length_drop, List.length_take, List.length_append, List.length_cons, List.length_nil, List.length_singleton]; omega) | (simp only [List.length_drop, List.length_take, List.length_append, List.length_cons, List.length_nil, List.length_singleton] at *; omega))⟩
          refine WS.iaVS (hQ _ (List.mem_of_getElem? hy17)) k hy71 rfl rfl rfl rfl ?_
          intro b71_ o71_ ha71
          have hsn := sumP_snoc hy71
          refine C rfl rfl (C rfl (op_ldH rfl (At.ld (k := 1) (ha71.mono M13.sub) rfl)) (C rfl (op_lenS (l := y71.ky) rfl) ?_))
          refine WS.gtrN (a := (y71.ky).length) (b := 12000) rfl rfl rfl (fun e75 => ?_) (fun e75 => ?_)
          ·
           refine C rfl rfl (D rfl (D rfl (D rfl (D rfl (D rfl (D rfl (D rfl (D rfl (D rfl ?_)))))))))
           refine D rfl (D rfl (C rfl rfl (WS.nil [(0, _), (3, _), (4, _), (5, _), (88, _)] rfl ?_)))
           refine WC.condT rfl (WC.seq (WC.run (C rfl rfl (WS.nil [(2, _)] rfl ?_))))
           refine WC.ret (⟨[_], (res_tmp rfl res_nil), ?_⟩)
           exact ⟨true, rfl, fun q => (nomatch q), M13.bare.take 0⟩
          ·
           refine C rfl rfl (C rfl rfl (C rfl rfl ?_))
           refine WS.iaVS A i hy17 rfl rfl rfl rfl ?_
           intro b79_ o79_ ha79
           refine C rfl rfl (C rfl (op_ldH rfl (At.ld (k := 4) (ha79.mono M13.sub) rfl)) (C rfl rfl ?_))
           refine WS.iaVS (hQ _ (List.mem_of_getElem? hy17)) k hy71 rfl rfl rfl rfl ?_
           intro b83_ o83_ ha83
           refine C rfl rfl (C rfl (op_ldH rfl (At.ld (k := 2) (ha83.mono M13.sub) rfl)) (C rfl (op_lenS (l := y71.va) rfl) ?_))
           refine WS.gtrN (a := (y71.va).length) (b := 12000) rfl rfl rfl (fun e87 => ?_) (fun e87 => ?_)
           ·
            refine C rfl rfl (WS.nil [(0, _), (3, _), (4, _), (5, _), (88, _)] rfl ?_)
            refine WC.condT rfl (WC.seq (WC.run (C rfl rfl (WS.nil [(2, _)] rfl ?_))))
            refine WC.ret (⟨[_], (res_tmp rfl res_nil), ?_⟩)
            exact ⟨true, rfl, fun q => (nomatch q), M13.bare.take 0⟩
           ·
            refine C rfl rfl (WS.nil [(0, _), (3, _), (4, _), (5, _), (88, _)] rfl ?_)
            refine WC.condF rfl (WC.skip (WC.draw M13 [] rfl ?_))
            intro rb14 h15 M16
            refine C rfl rfl (C rfl rfl (C rfl rfl ?_))
            refine WS.iaVS A i hy17 rfl rfl rfl rfl ?_
            intro b92_ o92_ ha92
            refine C rfl rfl (C rfl (op_ldH rfl (At.ld (k := 4) (ha92.mono M16.sub) rfl)) (C rfl rfl ?_))
            refine WS.iaVS (hQ _ (List.mem_of_getElem? hy17)) k hy71 rfl rfl rfl rfl ?_
            intro b96_ o96_ ha96
            refine C rfl rfl (C rfl (op_ldH rfl (At.ld (k := 1) (ha96.mono M16.sub) rfl)) (C rfl (op_lenS (l := y71.ky) rfl) (WS.opV (.int .i64 (((m + (y71.ky).length) : Nat) : Int)) rfl rfl (add_i64 (a := m) (b := (y71.ky).length) (by omega)) (C rfl rfl (C rfl rfl ?_)))))
            refine WS.iaVS A i hy17 rfl rfl rfl rfl ?_
            intro b103_ o103_ ha103
            refine C rfl rfl (C rfl (op_ldH rfl (At.ld (k := 4) (ha103.mono M16.sub) rfl)) (C rfl rfl ?_))
            refine WS.iaVS (hQ _ (List.mem_of_getElem? hy17)) k hy71 rfl rfl rfl rfl ?_
            intro b107_ o107_ ha107
            refine C rfl rfl (C rfl (op_ldH rfl (At.ld (k := 2) (ha107.mono M16.sub) rfl)) (C rfl (op_lenS (l := y71.va) rfl) (WS.opV (.int .i64 ((((m + (y71.ky).length) + (y71.va).length) : Nat) : Int)) rfl rfl (add_i64 (a := (m + (y71.ky).length)) (b := (y71.va).length) (by omega)) (C rfl rfl (WS.nil [(0, _), (3, _), (4, _), (5, _)] rfl ?_)))))
            refine WC.run (C rfl rfl (WS.opV (.int .i64 (((k + 1) : Nat) : Int)) rfl rfl (add_i64 (a := k) (b := 1) (by omega)) (C rfl rfl (WS.nil [(0, _), (3, _), (4, _), (5, _)] rfl ?_))))
            refine ⟨(((m + (y71.ky).length) + (y71.va).length), k + 1), rfl, ⟨(M16.bare.bare.take 0), ?_⟩, ?_⟩
            · exact ⟨by omega, by omega, by omega, mem_snoc hy71 hP ⟨by omega, by omega⟩⟩
            · simp only []; omega
         ·
          refine WS.nil [(0, _), (3, _), (4, _), (5, _), (62, _)] rfl ?_
          refine WC.condF rfl (WC.exit ?_)
          refine WC.run (C rfl rfl (WS.opV (.int .i64 (((i + 1) : Nat) : Int)) rfl rfl (add_i64 (a := i) (b := 1) (by omega)) (C rfl rfl (WS.nil [(0, _), (3, _), (4, _)] rfl ?_))))
          refine ⟨(m, i + 1), rfl, ⟨(M13.bare.take 0), ?_⟩, ?_⟩
          · have htk : y17.ps.take k = y17.ps := List.take_of_length_le (by omega); rw [htk] at hm hmb hP; exact ⟨by rw [sumA_snoc hy17]; unfold sizeA; omega, by omega, by omega, mem_snoc hy17 hO ⟨by omega, by omega, by omega, hP⟩⟩
          · simp only []; omega
    ·
     refine WS.nil [(0, _), (3, _), (4, _), (12, _)] rfl ?_
     refine WC.condF rfl (WC.exit ?_)
     refine WC.seq (WC.run (C rfl rfl ?_))
     refine WS.gtrN (a := n) (b := 12000) rfl rfl rfl (fun e113 => ?_) (fun e113 => ?_)
     ·
      refine C rfl rfl (WS.nil [(2, _)] rfl ?_)
      refine WC.ret (⟨[_], (res_tmp rfl res_nil), ?_⟩)
      exact ⟨true, rfl, fun q => (nomatch q), M5.bare.take 0⟩
     ·
      refine C rfl rfl (WS.nil [(2, _)] rfl ?_)
      refine WC.ret (⟨[_], (res_tmp rfl res_nil), ?_⟩)
      have htk : l.take i = l := List.take_of_length_le (by omega)
      rw [htk] at hn hO
      exact ⟨false, rfl, fun _ => ⟨by omega, hO, by omega⟩, M5.bare.take 0⟩
end Go.Proofs.Ytkfjlbdedjoojaa.Wt
namespace Go.Proofs.Ytkfjlbdedjoojaa.Wt
open Go Go.Proofs.Ytkfjlbdedjoojaa.Am Go.Proofs.Ytkfjlbdedjoojaa.IrAll
open Go.Proofs.Ytkfjlbdedjoojaa.Am.WS renaming op → C
open Go.Proofs.Ytkfjlbdedjoojaa.Am.WS renaming nil → D
open Go.Proofs.Ytkfjlbdedjoojaa.Am.WC renaming seq → J
set_option linter.unusedVariables false
set_option linter.unusedSimpArgs false
variable {h base h2 : H} {L : List Seg} {R : List Nat}
theorem and65535 {n : Nat} (h : n < 18446744073709551616) : Value.int .u64 (IntKind.u64.wrap ((BitVec.ofInt IntKind.u64.bits (n : Int) &&& BitVec.ofInt IntKind.u64.bits 65535).toNat : Nat)) = .int .u64 ((n % 65536 : Nat) : Int) := by
  have := bv64 n 65535 h (by omega)
  rw [Nat.and_two_pow_sub_one_eq_mod n 16] at this; rw [← this]; rfl
theorem bat_small (s : KS) (ps : List PtI) : (batK s ps).2 < 256 := by
  have : ∀ (ps : List PtI) (t : KS), (batG s t ps).2 < 256 := by
    intro ps
    induction ps with
    | nil => intro t; exact (by decide : 0 < 256)
    | cons p ps ih =>
      intro t; unfold batG
      split
      · exact ih _
      · split
        · exact put_small _ _ _ _
        · exact ih _
  exact this ps s
theorem del_small (s : KS) (key : List UInt8) : (delK s key).2 < 256 := by
  unfold delK; split
  · exact (by decide : 0 < 256)
  · exact (by decide : 1 < 256)
theorem Get_ro (W : Mem h h [] []) {p : Nat} {LL : List (List It)} {S : Seg} {key : List UInt8} (G : PgSt p LL S) (hS : ∀ q ∈ S, h.get q.1 = some q.2) (hI : Inv LL) (hn : LL.flatten.length ≤ 900000) : Cll tab0 58 [.pointer (some ⟨p, 0, none⟩), .string (bs key)] h (fun v h2 => v = .tuple #[.agg (Vl.cells (getV LL.flatten key).1).toArray, .bool (getV LL.flatten key).2] ∧ Mem h h2 [] []) := by
  obtain ⟨gs, rfl, hok, A⟩ := G.read hS
  exact Get_ran W A hI (gs_le hI hn)
theorem KvSt.facts {s : Nat} {st : KS} {S : Seg} (G : KvSt s st S) (hS : ∀ q ∈ S, h.get q.1 = some q.2) : ∃ p Sp LL, PgSt p LL Sp ∧ Inv LL ∧ LL.flatten = st.F ∧ (∀ q ∈ Sp, h.get q.1 = some q.2) ∧ h.get s = some ⟨[.pointer (some ⟨p, 0, none⟩), .int .i64 (st.K : Int), .int .i64 (st.M : Int), .int .i64 ((szF st.F : Nat) : Int), .int .u64 (st.v : Int)], 0, false⟩ := by
  obtain ⟨p, Sp, LL, G, hI, hF, rfl⟩ := G
  exact ⟨p, Sp, LL, G, hI, hF, fun q hq => hS q (List.mem_cons_of_mem _ hq), hS _ (List.mem_cons_self ..)⟩
theorem Lease_ro (W : Mem h h [] []) {s : Nat} {st : KS} {S : Seg} {key : List UInt8} (G : KvSt s st S) (hS : ∀ q ∈ S, h.get q.1 = some q.2) (hn : st.F.length ≤ 800000) : Cll tab0 32 [.pointer (some ⟨s, 0, none⟩), .string (bs key)] h (fun v h2 => v = .int .u64 ((getV st.F key).1.lea.toNat : Int) ∧ Mem h h2 [] []) := by
  obtain ⟨p, Sp, LL, G, hI, hF, hSp, hb⟩ := G.facts hS
  rw [← hF] at hn ⊢
  refine Cll.code rfl rfl ?_
  refine WC.env [(0, _), (1, _)] rfl ?_
  refine J (WC.run (C rfl rfl (D [(0, _), (1, _)] rfl ?_)))
  refine J (J (WC.run (C rfl rfl (WS.opV (.bool false) rfl rfl rfl (D [(0, _), (1, _), (8, _)] rfl ?_)))))
  refine WC.condF rfl (WC.skip (J (WC.run (C rfl rfl (C rfl rfl (C rfl rfl (C rfl (op_ld (W.sub _ _ hb) rfl rfl) (C rfl rfl ?_))))))))
  refine WS.call rfl rfl rfl (Get_ro W.here (key := key) G (fun q hq => W.sub _ _ (hSp q hq)) hI (Nat.le_trans hn (by omega))) ?_
  rintro _ h1 ⟨rfl, N2⟩
  have M3 := W.trans N2
  refine C rfl rfl (C rfl rfl (C rfl rfl ?_))
  refine WS.new M3 rfl ?_
  intro p4 h5 M6
  refine WS.st1 (M6.focus 0 rfl) [_, _, _] [_, _, _] rfl rfl rfl rfl rfl (Nat.le_of_ble_eq_true rfl) (Nat.le_of_ble_eq_true rfl) rfl rfl ?_
  intro h7 M8
  replace M8 : Mem _ _ ([(p4, _)] :: []) _ := M8
  refine C rfl rfl (D [(5, _)] rfl ?_)
  refine J (WC.run (C rfl rfl (C rfl (op_ld (M8.at 0 rfl) rfl rfl) (C rfl rfl (D [(4, _)] rfl ?_)))))
  refine WC.ret (⟨[_], (res_tmp rfl res_nil), ?_⟩)
  exact ⟨rfl, M8.bare.take 0⟩
theorem wrK_len {s : KS} (h : KFit s 1700 1000000 30000) : (wrK s).length ≤ 700000 := by
  have h1 := h.n; have h2 := h.v; have h3 := h.z
  have h4 := h.good.ok.K; have h5 := h.good.ok.M
  have a := head_len (a := s.K) (b := s.M) (c := s.v) (d := s.F.length) (by omega) (by omega) (by omega) (by omega)
  have b := rows_len (F := s.F) (by omega)
  unfold wrK; rw [List.length_append]; omega
set_option maxRecDepth 8000 in
set_option maxHeartbeats 2000000 in
theorem does_st {s : Nat} {st : KS} {S : Seg} {a : Ac} (G : KvSt s st S) (M : Mem base h (S :: L) []) (hf : KFit st 1700 1000000 30000) (hA : OkA a) (hQa : KPtI.Sl base a.sv a.ps) : Cll tab0 14 [.pointer (some ⟨s, 0, none⟩), .agg (Ac.cells a).toArray] h (fun u h2 => ∃ p S2 V S3, u = .tuple #[.pointer (some ⟨p, 0, none⟩), .int .i64 (doK st a).2.1, V] ∧ (∀ hh : H, (∀ q ∈ S3, hh.get q.1 = some q.2) → KRwI.Sl hh V (doK st a).2.2) ∧ KvSt p (doK st a).1 S2 ∧ Mem base h2 (S3 :: S2 :: L) []) := by
  have hok := hf.good.ok
  have hN : st.F.length ≤ 800000 := Nat.le_trans hf.n (by omega)
  have hV : st.v < 18446744073709551615 := Nat.lt_of_le_of_lt hf.v (by omega)
  have hl1 : a.ky.length ≤ 1000000 := Nat.le_trans hA.1 (by omega)
  have hl2 : a.va.length ≤ 1000000 := Nat.le_trans hA.2.1 (by omega)
  have hps := put_small st a.ky a.va a.ls; have hbs := bat_small st a.ps; have hds := del_small st a.ky
  have hz := hf.z; have hn8 := hf.n; have hvm := hf.v; have hp10 := hA.2.2.1
  refine Cll.code rfl rfl ?_
  refine WC.env [(0, _), (1, _)] rfl ?_
  refine J (WC.run (WS.box M [_, _, _, _, _, _] rfl rfl rfl rfl ?_))
  intro p1 h2 M3
  refine C rfl rfl (C rfl rfl (C rfl rfl (D [(0, _), (3, _)] rfl ?_)))
  refine J (J (WC.run (C rfl rfl (C rfl (op_ld (M3.at 0 rfl) rfl rfl) (D [(0, _), (3, _), (12, _)] rfl ?_)))))
  refine WC.block (J (WC.run (WS.eqlN (a := (a.d).toNat) (b := 0) rfl rfl rfl (fun e14 => ?_) (fun e14 => ?_))))
  ·
   refine C rfl rfl (D [(0, _), (3, _), (12, _), (13, _)] rfl ?_)
   refine WC.condT rfl (J (WC.run (C rfl rfl (C rfl rfl (C rfl rfl (C rfl (op_ld (M3.at 0 rfl) rfl rfl) (C rfl rfl (C rfl (op_ld (M3.at 0 rfl) rfl rfl) (C rfl rfl (C rfl (op_ld (M3.at 0 rfl) rfl rfl) ?_))))))))))
   refine WS.call rfl rfl rfl (kPut_st (key := a.ky) (val := a.va) (ls := a.ls) G (M3.bare.focus 1 rfl) hok hN hl1 hl2 hV) ?_
   rintro _ h4 ⟨rfl, S6, G7, M5⟩
   replace M5 : Mem _ _ (S6 :: [(p1, _)] :: L) _ := M5
   refine WS.opV (.int .i64 (((putK st a.ky a.va a.ls).2 : Nat) : Int)) rfl rfl (cv_i64 (n := (putK st a.ky a.va a.ls).2) (by have := put_small st a.ky a.va a.ls; omega)) (C rfl rfl (C rfl rfl (C rfl rfl (D [(4, _), (5, _), (6, _)] rfl ?_))))
   refine WC.ret (⟨[_, _, _], (res_tmp rfl (res_tmp rfl (res_tmp rfl res_nil))), ?_⟩)
   have e : doK st a = ((putK st a.ky a.va a.ls).1, (((putK st a.ky a.va a.ls).2 : Nat) : Int), []) := by unfold doK; first | exact if_pos e14 | (rw [if_neg e14]; first | exact if_pos e26 | (rw [if_neg e26]; first | exact if_pos e34 | (rw [if_neg e34]; first | exact if_pos e42 | (rw [if_neg e42]; first | (rw [if_pos e49]; done) | (rw [if_pos e49]; first | (rw [if_pos hb1]; done) | (rw [hb1]; rfl)) | (rw [if_neg e49]; first | exact if_pos e72 | exact if_neg e72)))))
   rw [e]
   exact ⟨_, _, _, [], rfl, (fun hh q => .nil), G7, ((M5.focus 1 rfl).drop).nils⟩
  ·
   refine C rfl rfl (D [(0, _), (3, _), (12, _), (13, _)] rfl ?_)
   refine WC.condF rfl (J (WC.run (WS.eqlN (a := (a.d).toNat) (b := 1) rfl rfl rfl (fun e26 => ?_) (fun e26 => ?_))))
   ·
    refine C rfl rfl (D [(0, _), (3, _), (12, _), (25, _)] rfl ?_)
    refine WC.condT rfl (J (WC.run (C rfl rfl (C rfl rfl (C rfl rfl (C rfl (op_ld (M3.at 0 rfl) rfl rfl) ?_))))))
    refine WS.call rfl rfl rfl (kDelete_st (key := a.ky) G (M3.bare.focus 1 rfl) hok hN hl1 hV) ?_
    rintro _ h8 ⟨rfl, S10, G11, M9⟩
    replace M9 : Mem _ _ (S10 :: [(p1, _)] :: L) _ := M9
    refine WS.opV (.int .i64 (((delK st a.ky).2 : Nat) : Int)) rfl rfl (cv_i64 (n := (delK st a.ky).2) (by omega)) (C rfl rfl (C rfl rfl (C rfl rfl (D [(4, _), (5, _), (6, _)] rfl ?_))))
    refine WC.ret (⟨[_, _, _], (res_tmp rfl (res_tmp rfl (res_tmp rfl res_nil))), ?_⟩)
    have e : doK st a = ((delK st a.ky).1, (((delK st a.ky).2 : Nat) : Int), []) := by unfold doK; first | exact if_pos e14 | (rw [if_neg e14]; first | exact if_pos e26 | (rw [if_neg e26]; first | exact if_pos e34 | (rw [if_neg e34]; first | exact if_pos e42 | (rw [if_neg e42]; first | (rw [if_pos e49]; done) | (rw [if_pos e49]; first | (rw [if_pos hb1]; done) | (rw [hb1]; rfl)) | (rw [if_neg e49]; first | exact if_pos e72 | exact if_neg e72)))))
    rw [e]
    exact ⟨_, _, _, [], rfl, (fun hh q => .nil), G11, ((M9.focus 1 rfl).drop).nils⟩
   ·
    refine C rfl rfl (D [(0, _), (3, _), (12, _), (25, _)] rfl ?_)
    refine WC.condF rfl (J (WC.run (WS.eqlN (a := (a.d).toNat) (b := 2) rfl rfl rfl (fun e34 => ?_) (fun e34 => ?_))))
    ·
     refine C rfl rfl (D [(0, _), (3, _), (12, _), (33, _)] rfl ?_)
     refine WC.condT rfl (J (WC.run (C rfl rfl (C rfl rfl (C rfl rfl (C rfl (op_ld (M3.at 0 rfl) rfl rfl) ?_))))))
     refine WS.call rfl rfl rfl (kBatch_st  G (M3.bare.focus 1 rfl) hok hQa (by omega) (by omega) (fun x hx => ⟨Nat.le_trans (hA.2.2.2 x hx).1 (by omega), Nat.le_trans (hA.2.2.2 x hx).2 (by omega)⟩)) ?_
     rintro _ h12 ⟨rfl, S14, G15, M13⟩
     replace M13 : Mem _ _ (S14 :: [(p1, _)] :: L) _ := M13
     refine WS.opV (.int .i64 (((batK st a.ps).2 : Nat) : Int)) rfl rfl (cv_i64 (n := (batK st a.ps).2) (by have := bat_small (st) a.ps; omega)) (C rfl rfl (C rfl rfl (C rfl rfl (D [(4, _), (5, _), (6, _)] rfl ?_))))
     refine WC.ret (⟨[_, _, _], (res_tmp rfl (res_tmp rfl (res_tmp rfl res_nil))), ?_⟩)
     have e : doK st a = ((batK st a.ps).1, (((batK st a.ps).2 : Nat) : Int), []) := by unfold doK; first | exact if_pos e14 | (rw [if_neg e14]; first | exact if_pos e26 | (rw [if_neg e26]; first | exact if_pos e34 | (rw [if_neg e34]; first | exact if_pos e42 | (rw [if_neg e42]; first | (rw [if_pos e49]; done) | (rw [if_pos e49]; first | (rw [if_pos hb1]; done) | (rw [hb1]; rfl)) | (rw [if_neg e49]; first | exact if_pos e72 | exact if_neg e72)))))
     rw [e]
     exact ⟨_, _, _, [], rfl, (fun hh q => .nil), G15, ((M13.focus 1 rfl).drop).nils⟩
    ·
     refine C rfl rfl (D [(0, _), (3, _), (12, _), (33, _)] rfl ?_)
     refine WC.condF rfl (J (WC.run (WS.eqlN (a := (a.d).toNat) (b := 3) rfl rfl rfl (fun e42 => ?_) (fun e42 => ?_))))
     ·
      refine C rfl rfl (D [(0, _), (3, _), (12, _), (41, _)] rfl ?_)
      refine WC.condT rfl (J (WC.run (C rfl rfl (C rfl rfl (C rfl rfl (C rfl (op_ld (M3.at 0 rfl) rfl rfl) ?_))))))
      refine WS.call rfl rfl rfl (kEnd_st (ls := a.ls) G (M3.bare.focus 1 rfl) hok hN (by omega) (fun x hx => by have q := szI_le hx; simp only [szI] at q; omega)) ?_
      rintro _ h16 ⟨rfl, S18, G19, M17⟩
      replace M17 : Mem _ _ (S18 :: [(p1, _)] :: L) _ := M17
      refine C rfl rfl (C rfl rfl (C rfl rfl (D [(4, _), (5, _), (6, _)] rfl ?_)))
      refine WC.ret (⟨[_, _, _], (res_tmp rfl (res_tmp rfl (res_tmp rfl res_nil))), ?_⟩)
      have e : doK st a = ((endK st a.ls).1, (((endK st a.ls).2 : Nat) : Int), []) := by unfold doK; first | exact if_pos e14 | (rw [if_neg e14]; first | exact if_pos e26 | (rw [if_neg e26]; first | exact if_pos e34 | (rw [if_neg e34]; first | exact if_pos e42 | (rw [if_neg e42]; first | (rw [if_pos e49]; done) | (rw [if_pos e49]; first | (rw [if_pos hb1]; done) | (rw [hb1]; rfl)) | (rw [if_neg e49]; first | exact if_pos e72 | exact if_neg e72)))))
      rw [e]
      exact ⟨_, _, _, [], rfl, (fun hh q => .nil), G19, ((M17.focus 1 rfl).drop).nils⟩
     ·
      refine C rfl rfl (D [(0, _), (3, _), (12, _), (41, _)] rfl ?_)
      refine WC.condF rfl (J (WC.run (WS.eqlN (a := (a.d).toNat) (b := 4) rfl rfl rfl (fun e49 => ?_) (fun e49 => ?_))))
      ·
       refine C rfl rfl (D [(0, _), (3, _), (12, _), (48, _)] rfl ?_)
       refine WC.condT rfl (J (WC.run (C rfl rfl (C rfl rfl (C rfl (op_ld (M3.at 0 rfl) rfl rfl) ?_)))))
       refine WS.call rfl rfl rfl (kGet_st (key := a.ky) G (M3.bare.focus 1 rfl) hN) ?_
       rintro _ h20 ⟨rfl, S22, G23, M21⟩
       replace M21 : Mem _ _ (S22 :: [(p1, _)] :: L) _ := M21
       refine C rfl rfl (C rfl rfl (C rfl rfl ?_))
       refine WS.new M21 rfl ?_
       intro p24 h25 M26
       refine WS.st1 (M26.focus 0 rfl) [_, _, _] [_, _, _] rfl rfl rfl rfl rfl (Nat.le_of_ble_eq_true rfl) (Nat.le_of_ble_eq_true rfl) rfl rfl ?_
       intro h27 M28
       replace M28 : Mem _ _ ([(p24, _)] :: S22 :: [(p1, _)] :: L) _ := M28
       refine C rfl rfl (D [(0, _), (3, _), (7, _), (8, _)] rfl ?_)
       refine J (J (WC.run (C rfl rfl ?_)))
       cases hb1 : (getV st.F a.ky).2
       ·
        refine WS.opV (.bool true) rfl rfl rfl (D [(0, _), (3, _), (7, _), (58, _)] rfl ?_)
        refine WC.condT rfl (J (WC.draw M28 [2] rfl ?_))
        intro rb29 h30 M31
        refine C rfl rfl (C rfl (op_lds [_, _, _] (M31.at 0 rfl) rfl (Nat.le_of_ble_eq_true rfl) rfl) (C rfl rfl (C rfl rfl ?_)))
        refine WS.bslA M31 [_, _, _] 0 rfl rfl rfl rfl rfl ?_
        intro h33 M34
        refine C rfl rfl (D [(4, _), (5, _), (6, _)] rfl ?_)
        refine WC.ret (⟨[_, _, _], (res_tmp rfl (res_tmp rfl (res_tmp rfl res_nil))), ?_⟩)
        have e : doK st a = (st, -1, [getR st.F a.ky]) := by unfold doK; first | exact if_pos e14 | (rw [if_neg e14]; first | exact if_pos e26 | (rw [if_neg e26]; first | exact if_pos e34 | (rw [if_neg e34]; first | exact if_pos e42 | (rw [if_neg e42]; first | (rw [if_pos e49]; done) | (rw [if_pos e49]; first | (rw [if_pos hb1]; done) | (rw [hb1]; rfl)) | (rw [if_neg e49]; first | exact if_pos e72 | exact if_neg e72)))))
        rw [e]
        exact ⟨_, _, _, _, rfl, (fun hh q => sl_all (K := KRwI) (l := [getR st.F a.ky]) (c := _) (by rw [KRwI.flat_one]; exact q _ (List.mem_singleton.2 rfl))), G23, (((M34.bare.focus 1 rfl).drop).focus 2 rfl).drop⟩
       ·
        refine WS.opV (.bool false) rfl rfl rfl (D [(0, _), (3, _), (7, _), (58, _)] rfl ?_)
        refine WC.condF rfl (WC.skip (J (WC.draw M28 [8] rfl ?_)))
        intro rb35 h36 M37
        refine C rfl rfl (C rfl rfl (C rfl rfl (C rfl (op_ld (M37.at 2 rfl) rfl rfl) (C rfl (op_lds [_, _, _] (M37.at 0 rfl) rfl (Nat.le_of_ble_eq_true rfl) rfl) ?_))))
        refine WS.call rfl rfl rfl (Lease_ro M37.here (key := a.ky) G23 (Mem.owni M37 1 rfl) hN) ?_
        rintro _ h38 ⟨rfl, N39⟩
        have M40 := M37.trans N39
        refine WS.chk rfl (op_lds [_, _, _] (M40.at 0 rfl) rfl (Nat.le_of_ble_eq_true rfl) rfl) rfl (sameV_refl rfl) (WS.opV (.int .u64 (((getV st.F a.ky).1.lea.toNat % 65536 : Nat) : Int)) rfl rfl (and65535 (UInt64.toNat_lt _)) (WS.opV (.int .i64 ((((getV st.F a.ky).1.lea.toNat % 65536) : Nat) : Int)) rfl rfl (cv_i64 (n := ((getV st.F a.ky).1.lea.toNat % 65536)) (by omega)) (C rfl rfl (C rfl rfl ?_))))
        refine WS.bslA M40 [_, _, _] 0 rfl rfl rfl rfl rfl ?_
        intro h42 M43
        refine C rfl rfl (D [(4, _), (5, _), (6, _)] rfl ?_)
        refine WC.ret (⟨[_, _, _], (res_tmp rfl (res_tmp rfl (res_tmp rfl res_nil))), ?_⟩)
        have e : doK st a = (st, (((getV st.F a.ky).1.lea.toNat % 65536 : Nat) : Int), [getR st.F a.ky]) := by unfold doK; first | exact if_pos e14 | (rw [if_neg e14]; first | exact if_pos e26 | (rw [if_neg e26]; first | exact if_pos e34 | (rw [if_neg e34]; first | exact if_pos e42 | (rw [if_neg e42]; first | (rw [if_pos e49]; done) | (rw [if_pos e49]; first | (rw [if_pos hb1]; done) | (rw [hb1]; rfl)) | (rw [if_neg e49]; first | exact if_pos e72 | exact if_neg e72)))))
        rw [e]
        exact ⟨_, _, _, _, rfl, (fun hh q => sl_all (K := KRwI) (l := [getR st.F a.ky]) (c := _) (by rw [KRwI.flat_one]; exact q _ (List.mem_singleton.2 rfl))), G23, (((M43.bare.focus 1 rfl).drop).focus 2 rfl).drop⟩
      ·
       refine C rfl rfl (D [(0, _), (3, _), (12, _), (48, _)] rfl ?_)
       refine WC.condF rfl (J (WC.run (WS.eqlN (a := (a.d).toNat) (b := 5) rfl rfl rfl (fun e72 => ?_) (fun e72 => ?_))))
       ·
        refine C rfl rfl (D [(0, _), (3, _), (12, _), (71, _)] rfl ?_)
        refine WC.condT rfl (J (WC.run (C rfl rfl (C rfl rfl (C rfl rfl (C rfl (op_ld (M3.at 0 rfl) rfl rfl) (C rfl rfl (C rfl (op_ld (M3.at 0 rfl) rfl rfl) (C rfl rfl (C rfl (op_ld (M3.at 0 rfl) rfl rfl) ?_))))))))))
        refine WS.call rfl rfl rfl (kRange_st (fr := a.ky) (to := a.va) (most := (a.n).toInt) G (M3.bare.focus 1 rfl) hN) ?_
        rintro V50 h44 ⟨S48, S46, O49, G47, M45⟩
        obtain ⟨P51, rfl⟩ := Row.Own.shape O49
        replace M45 : Mem _ _ (S48 :: S46 :: [(p1, _)] :: L) _ := M45
        refine C rfl rfl (C rfl rfl (C rfl rfl (D [(4, _), (5, _), (6, _)] rfl ?_)))
        refine WC.ret (⟨[_, _, _], (res_tmp rfl (res_tmp rfl (res_tmp rfl res_nil))), ?_⟩)
        have e : doK st a = (st, 0, (rangeF st.F a.ky a.va a.n.toInt).map toRw) := by unfold doK; first | exact if_pos e14 | (rw [if_neg e14]; first | exact if_pos e26 | (rw [if_neg e26]; first | exact if_pos e34 | (rw [if_neg e34]; first | exact if_pos e42 | (rw [if_neg e42]; first | (rw [if_pos e49]; done) | (rw [if_pos e49]; first | (rw [if_pos hb1]; done) | (rw [hb1]; rfl)) | (rw [if_neg e49]; first | exact if_pos e72 | exact if_neg e72)))))
        rw [e]
        exact ⟨_, _, _, _, rfl, (fun hh q => Row.Own.sl O49 q), G47, (M45.focus 2 rfl).drop⟩
       ·
        refine C rfl rfl (D [(0, _), (3, _), (12, _), (71, _)] rfl ?_)
        refine WC.condF rfl (J (WC.run (WS.eqlN (a := (a.d).toNat) (b := 6) rfl rfl rfl (fun e83 => ?_) (fun e83 => ?_))))
        ·
         refine C rfl rfl (D [(0, _), (82, _)] rfl ?_)
         refine WC.condT rfl (J (WC.run (C rfl rfl ?_)))
         refine WS.call rfl rfl rfl (kWrite_st  G (M3.bare.focus 1 rfl) hok hN (Nat.lt_of_lt_of_le hV (by decide))) ?_
         rintro _ h52 ⟨rfl, S54, G55, M53⟩
         replace M53 : Mem _ _ (S54 :: [(p1, _)] :: L) _ := M53
         refine WS.call rfl rfl rfl (kRead_st M53.bare (wrK_len hf)) ?_
         rintro _ h56 (⟨x60, T61, S58, rfl, _, _, hT62, G59, M57⟩ | ⟨rfl, hno, _⟩)
         rotate_left
         · exact absurd rfl (hno _ hf.good)
         rw [hT62 _ hf.good rfl] at G59
         replace M57 : Mem _ _ (S58 :: S54 :: [(p1, _)] :: L) _ := M57
         refine C rfl rfl (C rfl rfl (C rfl rfl (C rfl rfl (C rfl rfl (D [(0, _), (9, _), (10, _)] rfl ?_)))))
         refine J (J (WC.run (C rfl rfl (WS.opV (.bool false) rfl rfl rfl (C rfl rfl (C rfl rfl (WS.opV (.bool false) rfl rfl rfl (C rfl rfl (D [(0, _), (9, _), (95, _)] rfl ?_)))))))))
         refine WC.condF rfl (WC.skip (J (WC.run (C rfl rfl (C rfl rfl (C rfl rfl (C rfl rfl (D [(4, _), (5, _), (6, _)] rfl ?_))))))))
         refine WC.ret (⟨[_, _, _], (res_tmp rfl (res_tmp rfl (res_tmp rfl res_nil))), ?_⟩)
         have e : doK st a = (st, 0, []) := by unfold doK; first | exact if_pos e14 | (rw [if_neg e14]; first | exact if_pos e26 | (rw [if_neg e26]; first | exact if_pos e34 | (rw [if_neg e34]; first | exact if_pos e42 | (rw [if_neg e42]; first | (rw [if_pos e49]; done) | (rw [if_pos e49]; first | (rw [if_pos hb1]; done) | (rw [hb1]; rfl)) | (rw [if_neg e49]; first | exact if_pos e72 | exact if_neg e72)))))
         rw [e]
         exact ⟨_, _, _, [], rfl, (fun hh q => .nil), G59, ((((M57.focus 1 rfl).drop).focus 1 rfl).drop).nils⟩
        ·
         refine C rfl rfl (D [(0, _), (82, _)] rfl ?_)
         refine WC.condF rfl (WC.skip (J (WC.run (C rfl rfl (C rfl rfl (C rfl rfl (C rfl rfl (D [(4, _), (5, _), (6, _)] rfl ?_))))))))
         refine WC.ret (⟨[_, _, _], (res_tmp rfl (res_tmp rfl (res_tmp rfl res_nil))), ?_⟩)
         have e : doK st a = (st, 0, []) := by unfold doK; first | exact if_pos e14 | (rw [if_neg e14]; first | exact if_pos e26 | (rw [if_neg e26]; first | exact if_pos e34 | (rw [if_neg e34]; first | exact if_pos e42 | (rw [if_neg e42]; first | (rw [if_pos e49]; done) | (rw [if_pos e49]; first | (rw [if_pos hb1]; done) | (rw [hb1]; rfl)) | (rw [if_neg e49]; first | exact if_pos e72 | exact if_neg e72)))))
         rw [e]
         exact ⟨_, _, _, [], rfl, (fun hh q => .nil), G, ((M3.focus 0 rfl).drop).nils⟩
end Go.Proofs.Ytkfjlbdedjoojaa.Wt
namespace Go.Proofs.Ytkfjlbdedjoojaa.Wt
open Go Go.Proofs.Ytkfjlbdedjoojaa.Am Go.Proofs.Ytkfjlbdedjoojaa.IrAll
set_option linter.unusedVariables false
set_option linter.unusedSimpArgs false
variable {h base h2 : H} {L : List Seg} {R : List Nat}
theorem fitN {s : KS} (h : KFit s 1700 1000000 30000) : s.F.length ≤ 800000 := Nat.le_trans h.n (by decide)
theorem fitV {s : KS} (h : KFit s 1700 1000000 30000) : s.v < 18446744073709551615 := Nat.lt_of_le_of_lt h.v (by decide)
def runK (s : KS) (l : List Ac) : KS := l.foldl (fun s a => (doK s a).1) s
theorem run_snoc {s : KS} {l : List Ac} {i : Nat} {y : Ac} (hy : l[i]? = some y) : runK s (l.take (i + 1)) = (doK (runK s (l.take i)) y).1 := by
  unfold runK; rw [List.take_add_one, hy]; simp
theorem run_fit {s : KS} {l : List Ac} {n v z : Nat} (h : KFit s n v z) (hl : l.length ≤ 80) (hn : n ≤ 800) (hv : v ≤ 200000) (hO : ∀ a ∈ l, OkA a) : ∀ i, i ≤ l.length → KFit (runK s (l.take i)) (n + 10 * i) (v + 1700 * i) (z + sumA (l.take i)) := by
  intro i
  induction i with
  | zero => intro _; exact h.mono (by omega) (by omega) (by omega)
  | succ i ih =>
    intro hi
    have hy : l[i]? = some l[i] := List.getElem?_eq_getElem (by omega)
    rw [run_snoc hy, sumA_snoc hy]
    exact (do_fit (a := l[i]) (ih (by omega)) (by omega) (hO _ (List.mem_of_getElem? hy)).2.2.1).mono (by omega) (by omega) (by omega)
theorem sumA_take (l : List Ac) (i : Nat) : sumA (l.take i) ≤ sumA l := by
  have : sumA l = sumA (l.take i) + sumA (l.drop i) := by unfold sumA; rw [← List.sum_append, ← List.map_append, List.take_append_drop]
  omega
theorem run_small {s : KS} {l : List Ac} {n v z : Nat} (h : KFit s n v z) (hl : l.length ≤ 80) (hn : n ≤ 800) (hv : v ≤ 200000) (hz : z ≤ 12000) (hO : ∀ a ∈ l, OkA a) (hs : sumA l ≤ 12000) : ∀ i, KFit (runK s (l.take i)) 1700 1000000 30000 := by
  intro i
  have hs2 := sumA_take l i
  by_cases c : i ≤ l.length
  · exact (run_fit h hl hn hv hO i c).mono (by omega) (by omega) (by omega)
  · have := (run_fit h hl hn hv hO l.length (Nat.le_refl _)).mono (n2 := 1700) (v2 := 1000000) (z2 := 30000) (by omega) (by omega) (by rw [List.take_length]; omega)
    rw [List.take_length] at this
    rw [List.take_of_length_le (by omega)]; exact this
theorem run_all {s : KS} {l : List Ac} (h : KFit s 0 0 0) (hl : l.length ≤ 80) (hO : ∀ a ∈ l, OkA a) (hs : sumA l ≤ 12000) : KFit (runK s l) 800 136000 12000 := by
  have := run_fit h hl (by omega) (by omega) hO l.length (Nat.le_refl _)
  rw [List.take_length] at this
  exact this.mono (by omega) (by omega) (by omega)
theorem new_fit (z1 z2 : Int) : KFit ⟨[], heldK z1, heldK z2, 0⟩ 0 0 0 := ⟨⟨new_ok z1 z2, fun y hy => absurd hy (by simp), (by decide : 0 < 18446744073709551616)⟩, Nat.le_refl _, Nat.le_refl _, Nat.le_refl _⟩
end Go.Proofs.Ytkfjlbdedjoojaa.Wt
namespace Go.Proofs.Ytkfjlbdedjoojaa.Wt
open Go Go.Proofs.Ytkfjlbdedjoojaa.Am Go.Proofs.Ytkfjlbdedjoojaa.IrAll
open Go.Proofs.Ytkfjlbdedjoojaa.Am.WS renaming op → C
open Go.Proofs.Ytkfjlbdedjoojaa.Am.WS renaming nil → D
open Go.Proofs.Ytkfjlbdedjoojaa.Am.WC renaming seq → F
set_option linter.unusedVariables false
set_option linter.unusedSimpArgs false
variable {h base h2 : H} {L : List Seg} {R : List Nat}
inductive OwnX {α : Type} (K : Row α) : Value → List α → Seg → Prop
  | own {V l S} (O : K.Own V l S) : OwnX K V l S
  | lit (b e : Nat) (l : List α) : OwnX K (.slice (some ⟨b, 0, none⟩) l.length (2 * l.length + 1)) l [(b, ⟨K.flat l, e, false⟩)]
theorem WS.appX {α : Type} {K : Row α} {e : Env} {l m : List α} {V y : Value} {tab : Nat → Option FD} {rb : Nat} {d : Option Nat} {g : Option (Nat × Bool)} {ss : List Step} {q : Env → H → Prop} {S : Seg} {x z : Operand} {bytes es : Nat} (O : OwnX K V l S) (M : Mem base h (S :: L) R) (A : K.Src h y m) (hm : m ≠ []) (hes : es = K.n) (hb : (l.length + m.length) * bytes ≤ 140737488355328) (hn : l.length + m.length ≤ 4398046511104) (hg : gd e g = some true) (hx : ev e x = some V) (hy : ev e z = some y)
    (k : ∀ V' S' h1, K.Own V' (l ++ m) S' → Mem base h1 (S' :: L) R → WS tab rb ss (put e d V') h1 q) : WS tab rb (.op d g (.app es bytes x z) :: ss) e h q := by
  cases O with
  | own O => exact WS.app O M A hes hb hn hg hx hy (fun V' S' h1 O M => k V' S' h1 O M)
  | lit b ee l =>
    subst hes
    obtain ⟨a1, a2⟩ := A
    have hall := plain1_one (K.flat_plain (l ++ m))
    have hg2 : h.get b = some ⟨K.flat l, ee, false⟩ := M.own0 _ (List.mem_singleton.2 rfl)
    have hml : m.length ≠ 0 := fun e => hm (List.eq_nil_of_length_eq_zero e)
    have hne : l ++ m ≠ [] := by intro q; exact hm (List.append_eq_nil_iff.1 q).2
    have O2 := Row.Own.row (K := K) h.next (l ++ m) hne
    refine .op hg (op_app hx hy (r := (.slice (some ⟨h.next, 0, none⟩) (l ++ m).length (2 * (l ++ m).length), h.alloc ⟨K.flat (l ++ m), K.n, false⟩)) ?_) (k _ _ _ O2 ((M.alloc _).focus 1 rfl).drop)
    have ham := plain1_one (K.flat_plain m)
    simp only [appE, a1, a2]
    rw [if_neg (by omega), if_pos ⟨hb, hn, ham⟩, lds_at hg2 (by rw [K.flat_length]; simp)]
    simp only
    rw [if_pos (by omega), List.drop_zero, List.take_of_length_le (by rw [K.flat_length]; exact Nat.le_refl _), ← K.flat_append, List.length_append]
    rfl
theorem WS.app0 {α : Type} {K : Row α} {e : Env} {m : List α} {y : Value} {tab : Nat → Option FD} {rb : Nat} {d : Option Nat} {g : Option (Nat × Bool)} {ss : List Step} {q : Env → H → Prop} {b ee : Nat} {x z : Operand} {bytes es : Nat} (M : Mem base h ([(b, ⟨[], ee, false⟩)] :: L) R) (A : K.Src h y m) (hes : es = K.n) (hb : (0 + m.length) * bytes ≤ 140737488355328) (hn : 0 + m.length ≤ 4398046511104) (hg : gd e g = some true) (hx : ev e x = some (.slice (some ⟨b, 0, none⟩) 0 1)) (hy : ev e z = some y)
    (k : ∀ V' S' h1, OwnX K V' m S' → Mem base h1 (S' :: L) R → WS tab rb ss (put e d V') h1 q) : WS tab rb (.op d g (.app es bytes x z) :: ss) e h q := by
  by_cases c : m = []
  · subst c
    obtain ⟨a1, a2⟩ := A
    refine .op hg (op_app hx hy (r := (.slice (some ⟨b, 0, none⟩) 0 1, h)) ?_) (k _ _ _ (OwnX.lit (K := K) b ee []) M)
    simp only [List.length_nil] at a1 a2
    subst hes
    have : srcCells h K.n 0 y = some [] := a2
    simp only [appE, a1, this]
    rfl
  · exact WS.appX (OwnX.lit (K := K) b ee []) M A c hes hb hn hg hx hy (fun V' S' h1 O M => k V' S' h1 (by rw [List.nil_append] at O; exact .own O) M)
theorem sumA_app (a b : List Ac) : sumA (a ++ b) = sumA a + sumA b := by unfold sumA; simp
def BatI (s0 : KS) (ps : List PtI) (t : KS) (f i : Nat) : Prop := batK s0 ps = if f = 0 then batG s0 t (ps.drop i) else (s0, f)
theorem batI_put {s0 t : KS} {ps : List PtI} {i : Nat} {p : PtI} (h : BatI s0 ps t 0 i) (hp : ps[i]? = some p) (c : p.op.toNat = 2) : BatI s0 ps (putK t p.ky p.va 0).1 (putK t p.ky p.va 0).2 (i + 1) := by
  unfold BatI at h ⊢
  rw [if_pos rfl] at h
  by_cases d : (putK t p.ky p.va 0).2 = 0
  · rw [if_pos d, h, bat_put hp c d]
  · rw [if_neg d, h, bat_over hp c d]
theorem batI_del {s0 t : KS} {ps : List PtI} {i : Nat} {p : PtI} (h : BatI s0 ps t 0 i) (hp : ps[i]? = some p) (c : p.op.toNat ≠ 2) : BatI s0 ps (delK t p.ky).1 0 (i + 1) := by
  unfold BatI at h ⊢
  rw [if_pos rfl] at h ⊢
  rw [h, bat_del hp c]
theorem batI_end {s0 t : KS} {ps : List PtI} {f i : Nat} (h : BatI s0 ps t f i) (hi : ps.length ≤ i ∨ f ≠ 0) : batK s0 ps = if f = 0 then (t, 0) else (s0, f) := by
  unfold BatI at h
  rw [h]
  by_cases c : f = 0
  · rw [if_pos c, if_pos c]
    rcases hi with q | q
    · rw [List.drop_of_length_le q]; rfl
    · exact absurd c q
  · rw [if_neg c, if_neg c]
set_option maxRecDepth 8000 in
set_option maxHeartbeats 4000000 in
theorem law_KvBatch (W : Mem h h [] []) {kz bz : Int64} {l : List Ac} {parts : List PtI} {u0 u1 u2 u3 : Value} (l0 : layI64 h kz [u0]) (l1 : layI64 h bz [u1]) (l2 : laySl layAct 6 h l [u2]) (l3 : laySl (fun _ y cs => cs = KPtI.cells y) 3 h parts [u3]) (k0 : True) (k1 : True) (k2 : l.length < 9223372036854775808 ∧ ∀ x ∈ l, x.ky.length < 9223372036854775808 ∧ x.va.length < 9223372036854775808 ∧ x.ps.length < 9223372036854775808 ∧ ∀ p ∈ x.ps, p.ky.length < 9223372036854775808 ∧ p.va.length < 9223372036854775808) (k3 : parts.length < 9223372036854775808 ∧ ∀ x ∈ parts, x.ky.length < 9223372036854775808 ∧ x.va.length < 9223372036854775808) (hsm : l.length * 80 ≤ 140737488351232) : Cll tab0 7 [u0, u1, u2, u3] h (fun v _ => v = .bool true) := by
  have hbl := k2.1
  have l0 : [u0] = [_] := l0
  cases l0
  have l1 : [u1] = [_] := l1
  cases l1
  obtain ⟨V2, hV2, S2⟩ := l2
  cases hV2
  obtain ⟨V3, hV3, S3⟩ := l3
  cases hV3
  obtain ⟨A, hQl⟩ := SlL.acts S2
  have A2 : KPtI.Sl h u3 parts := SlL.sl (K := KPtI) S3
  obtain ⟨P, c, rfl⟩ := A.shape
  obtain ⟨P2, c2, rfl⟩ := A2.shape
  obtain ⟨ac, hac⟩ : ∃ ac : Ac, ac = ⟨0, [], [], 0, parts, (P2, c2), 0⟩ := ⟨_, rfl⟩
  have hQx : ∀ a ∈ l ++ [ac], KPtI.Sl h a.sv a.ps := fun a ha => by
    rcases List.mem_append.1 ha with q | q
    · exact hQl a q
    · rw [List.mem_singleton] at q; subst q; rw [hac]; exact A2
  refine Cll.code rfl rfl ?_
  refine WC.env [(0, _), (1, _), (2, _), (3, _)] rfl ?_
  refine F (WC.run (C rfl rfl (D [(0, _), (1, _), (2, _), (3, _)] rfl ?_)))
  refine F (F (WC.run (WS.bsl W [] rfl rfl rfl rfl ?_)))
  intro p1 h2 M3
  refine C rfl rfl ?_
  refine WS.app0 (m := l) (M3.focus 0 rfl) (Row.Src.sl (A.mono M3.sub)) rfl (by omega) (by omega) rfl rfl rfl ?_
  intro V4 S5 h6 O7 M8
  replace M8 : Mem _ _ (S5 :: []) _ := M8
  refine C rfl rfl (WS.opV (.agg #[(.int .u8 (0 : Int)), (.string (bs ([]))), (.string (bs ([]))), (.int .u64 (0 : Int)), (.slice P2 parts.length c2), (.int .i64 (0 : Int))]) rfl rfl rfl ?_)
  refine WS.bsl M8 [_, _, _, _, _, _] rfl rfl rfl rfl ?_
  intro p9 h10 M11
  refine WS.appX (l := l) (m := [ac]) O7 (M11.focus 1 rfl) (by rw [hac]; exact Row.Src.one (K := KAc) (m := [(⟨0, [], [], 0, parts, (P2, c2), 0⟩ : Ac)]) (M11.at 0 rfl)) (by simp) rfl (by simp only [List.length_cons, List.length_nil]; omega) (by simp only [List.length_cons, List.length_nil]; omega) rfl rfl rfl ?_
  intro V12 S13 h14 O15 M16
  replace M16 : Mem _ _ (S13 :: [(p9, _)] :: []) _ := M16
  obtain ⟨P17, rfl⟩ := Row.Own.shape O15
  refine WS.call rfl rfl rfl (Great16_ran M16.here (Row.Own.sl O15 (Mem.owni M16 0 rfl)) (fun a ha => (hQx a ha).mono M16.sub) (by rw [List.length_append]; show l.length + 1 < _; omega)) ?_
  rintro _ h18 ⟨g23, rfl, hg23, N19⟩
  have M20 := M16.trans N19
  refine D [(0, _), (1, _), (2, _), (3, _), (23, _)] rfl ?_
  cases hb1 : g23
  ·
   refine WC.condF rfl (WC.skip (F (WC.run ?_)))
   obtain ⟨hl9, hOx, hsx⟩ := hg23 (by assumption)
   rw [List.length_append] at hl9
   rw [sumA_app] at hsx
   have hl8 : l.length ≤ 80 := by omega
   have hOl : ∀ a ∈ l, OkA a := fun a ha => hOx a (List.mem_append_left _ ha)
   have hOp := hOx ac (List.mem_append_right _ (List.mem_singleton.2 rfl))
   rw [hac] at hOp hsx
   have hsq : sumA [(⟨0, [], [], 0, parts, (P2, c2), 0⟩ : Ac)] = sumP parts := by simp [sumA, sizeA]
   have hsp : sumP parts ≤ 12000 := by rw [hsq] at hsx; omega
   have hpk := hOp.2.2.2
   have hp10 : parts.length ≤ 10 := hOp.2.2.1
   simp only [] at hpk
   have hF1 := run_small (new_fit (kz).toInt (bz).toInt) hl8 (by omega) (by omega) (by omega) hOl (by omega)
   have hFB := run_all (new_fit (kz).toInt (bz).toInt) hl8 hOl (by omega)
   have hFA := hFB.mono (n2 := 1700) (v2 := 1000000) (z2 := 30000) (by omega) (by omega) (by omega)
   have hFBt : KFit (batK (runK (⟨[], heldK (kz).toInt, heldK (bz).toInt, 0⟩ : KS) l) parts).1 1700 1000000 30000 := (bat_fit (ps := parts) hFB hFB (by omega)).mono (by omega) (by omega) (by omega)
   have hnA := hFB.n
   have hvA := hFB.v
   refine C rfl rfl (C rfl rfl ?_)
   refine WS.call rfl rfl rfl (kNew_ran M20.bare) ?_
   rintro _ h21 ⟨x27, S23, rfl, G24, M22⟩
   replace M22 : Mem _ _ (S23 :: S13 :: [(p9, _)] :: []) _ := M22
   refine C rfl rfl (D [(0, _), (1, _), (2, _), (3, _), (9, _)] rfl ?_)
   refine F (WC.run (C rfl rfl (C rfl rfl ?_)))
   refine WS.call rfl rfl rfl (kNew_ran M22.bare) ?_
   rintro _ h25 ⟨x30, S27, rfl, G28, M26⟩
   replace M26 : Mem _ _ (S27 :: S23 :: S13 :: [(p9, _)] :: []) _ := M26
   refine C rfl rfl (D [(2, _), (3, _), (9, _), (10, _)] rfl ?_)
   refine F (F (WC.run (C rfl rfl (D [(2, _), (3, _), (9, _), (10, _), (11, _)] rfl ?_))))
   refine WC.block ?_
   obtain ⟨L29, eL31, M30⟩ := Mem.name2 ((M26.bare.focus 0 rfl).focus 1 rfl)
   refine WC.loop (σ := Nat × Nat × Seg × Seg × Nat) (fun ((p, q, S_, T_, i)) => [(2, (.slice P l.length c)), (3, (.slice P2 parts.length c2)), (9, (.pointer (some ⟨p, 0, none⟩))), (10, (.pointer (some ⟨q, 0, none⟩))), (11, (.int .i64 ((i : Nat) : Int)))]) (fun ((p, q, S_, T_, i)) hh => Mem h hh (S_ :: T_ :: L29) [] ∧ KvSt p (runK (⟨[], heldK (kz).toInt, heldK (bz).toInt, 0⟩ : KS) (l.take i)) S_ ∧ KvSt q (runK (⟨[], heldK (kz).toInt, heldK (bz).toInt, 0⟩ : KS) (l.take i)) T_ ∧ i ≤ l.length) (fun ((p, q, S_, T_, i)) => l.length - i) (_, _, _, _, 0) rfl ⟨M30, ?_⟩ ?_
   · exact ⟨by assumption, by assumption, by omega⟩
   ·rintro ⟨p, q, S_, T_, i⟩ h32 ⟨M33, ⟨G_, H_, hi⟩⟩
    replace eL31 := eL31.symm; subst eL31
    refine WC.env [(2, _), (3, _), (9, _), (10, _), (11, _)] rfl ?_
    refine F (F (WC.run (C rfl rfl (C rfl rfl (C rfl (op_lenVS A rfl) ?_)))))
    refine WS.lssN (a := i) (b := (l).length) rfl rfl rfl (fun e34 => ?_) (fun e34 => ?_)
    ·
     refine D [(2, _), (3, _), (9, _), (10, _), (11, _), (34, _)] rfl ?_
     refine WC.condT rfl (WC.skip (F (WC.block (F (WC.run (C rfl rfl (C rfl rfl (C rfl rfl ?_))))))))
     obtain ⟨y41, hy41⟩ : ∃ y, (l)[i]? = some y := ⟨_, List.getElem?_eq_getElem (show i < (l).length by first | omega | (simp only [List.length_drop, List.length_take, List.length_append, List.length_cons, List.length_nil, List.length_singleton]; omega) | (simp only [List.length_drop, List.length_take, List.length_append, List.length_cons, List.length_nil, List.length_singleton] at *; omega))⟩
     refine WS.iaVS A i hy41 rfl rfl rfl rfl ?_
     intro b41_ o41_ ha41
     refine C rfl (op_ldAt rfl (ha41.mono M33.sub) rfl) ?_
     refine WS.call rfl rfl rfl (does_st (a := y41) G_ (M33.bare.focus 0 rfl) (hF1 i) (hOl _ (List.mem_of_getElem? hy41)) (hQl _ (List.mem_of_getElem? hy41))) ?_
     rintro _ h34 ⟨x36, S37, V38, S39, rfl, O40, G41, M35⟩
     replace M35 : Mem _ _ (S39 :: S37 :: T_ :: S13 :: [(p9, _)] :: []) _ := M35
     have G42 : KvSt x36 (runK (⟨[], heldK (kz).toInt, heldK (bz).toInt, 0⟩ : KS) (l.take (i + 1))) S37 := by rw [run_snoc hy41]; exact G41
     refine C rfl rfl (C rfl rfl (C rfl rfl (C rfl rfl (C rfl rfl (D [(2, _), (3, _), (9, _), (10, _), (11, _)] rfl ?_)))))
     refine WC.run (C rfl rfl (C rfl rfl (C rfl rfl ?_)))
     refine WS.iaVS A i hy41 rfl rfl rfl rfl ?_
     intro b51_ o51_ ha51
     refine C rfl (op_ldAt rfl (ha51.mono M35.sub) rfl) ?_
     refine WS.call rfl rfl rfl (does_st (a := y41) H_ (M35.bare.focus 2 rfl) (hF1 i) (hOl _ (List.mem_of_getElem? hy41)) (hQl _ (List.mem_of_getElem? hy41))) ?_
     rintro _ h43 ⟨x45, S46, V47, S48, rfl, O49, G50, M44⟩
     replace M44 : Mem _ _ (S48 :: S46 :: S39 :: S37 :: S13 :: [(p9, _)] :: []) _ := M44
     have G51 : KvSt x45 (runK (⟨[], heldK (kz).toInt, heldK (bz).toInt, 0⟩ : KS) (l.take (i + 1))) S46 := by rw [run_snoc hy41]; exact G50
     refine C rfl rfl (C rfl rfl (C rfl rfl (C rfl rfl (C rfl rfl (D [(2, _), (3, _), (9, _), (10, _), (11, _)] rfl ?_)))))
     refine WC.run (C rfl rfl (WS.opV (.int .i64 (((i + 1) : Nat) : Int)) rfl rfl (add_i64 (a := i) (b := 1) (by omega)) (C rfl rfl (D [(2, _), (3, _), (9, _), (10, _), (11, _)] rfl ?_))))
     refine ⟨(x36, x45, S37, S46, i + 1), rfl, ⟨(((((M44.bare.focus 5 rfl).focus 5 rfl).focus 3 rfl).focus 5 rfl).take 4), ?_⟩, ?_⟩
     · exact ⟨G42, G51, by omega⟩
     · simp only []; omega
    ·
     refine D [(2, _), (3, _), (9, _), (10, _), (11, _), (34, _)] rfl ?_
     refine WC.condF rfl (WC.exit ?_)
     refine F (WC.run ?_)
     have GA : KvSt p (runK (⟨[], heldK (kz).toInt, heldK (bz).toInt, 0⟩ : KS) l) S_ := by have q := G_; rw [List.take_of_length_le (by omega)] at q; exact q
     have GB : KvSt q (runK (⟨[], heldK (kz).toInt, heldK (bz).toInt, 0⟩ : KS) l) T_ := by have q := H_; rw [List.take_of_length_le (by omega)] at q; exact q
     refine C rfl rfl ?_
     refine WS.call rfl rfl rfl (kWrite_st  GA (M33.bare.focus 0 rfl) hFA.good.ok (fitN hFA) (Nat.lt_of_lt_of_le (fitV hFA) (by decide))) ?_
     rintro _ h52 ⟨rfl, S54, G55, M53⟩
     replace M53 : Mem _ _ (S54 :: T_ :: S13 :: [(p9, _)] :: []) _ := M53
     refine C rfl rfl (D [(3, _), (9, _), (10, _), (12, _)] rfl ?_)
     refine F (WC.run (C rfl rfl (C rfl rfl ?_)))
     refine WS.call rfl rfl rfl (kBatch_st  G55 (M53.bare.focus 0 rfl) hFA.good.ok A2 (by omega) (by omega) (fun x hx => ⟨Nat.le_trans (hpk x hx).1 (by omega), Nat.le_trans (hpk x hx).2 (by omega)⟩)) ?_
     rintro _ h56 ⟨rfl, S58, G59, M57⟩
     replace M57 : Mem _ _ (S58 :: T_ :: S13 :: [(p9, _)] :: []) _ := M57
     refine C rfl rfl (D [(3, _), (9, _), (10, _), (12, _), (13, _)] rfl ?_)
     refine F (WC.run (C rfl rfl (D [(3, _), (9, _), (10, _), (12, _), (13, _), (14, _)] rfl ?_)))
     refine F (F (WC.run (C rfl rfl (D [(3, _), (9, _), (10, _), (12, _), (13, _), (14, _), (15, _)] rfl ?_))))
     refine WC.block ?_
     obtain ⟨L60, eL62, M61⟩ := Mem.name1 (M57.bare.focus 1 rfl)
     refine WC.loop (σ := Seg × KS × Nat × Nat) (fun ((S_, t, f, i)) => [(3, (.slice P2 parts.length c2)), (9, (.pointer (some ⟨p, 0, none⟩))), (10, (.pointer (some ⟨q, 0, none⟩))), (12, (.string (bs (wrK (runK (⟨[], heldK (kz).toInt, heldK (bz).toInt, 0⟩ : KS) l))))), (13, (.int .u8 (((batK (runK (⟨[], heldK (kz).toInt, heldK (bz).toInt, 0⟩ : KS) l) parts).2 : Nat) : Int))), (14, (.int .u8 ((f : Nat) : Int))), (15, (.int .i64 ((i : Nat) : Int)))]) (fun ((S_, t, f, i)) hh => Mem h hh (S_ :: L60) [] ∧ KvSt q t S_ ∧ KFit t (800 + i) (136000 + i) (12000 + 24000 * i) ∧ BatI (runK (⟨[], heldK (kz).toInt, heldK (bz).toInt, 0⟩ : KS) l) parts t f i ∧ f < 256 ∧ i ≤ parts.length) (fun ((S_, t, f, i)) => parts.length - i) (_, (runK (⟨[], heldK (kz).toInt, heldK (bz).toInt, 0⟩ : KS) l), 0, 0) rfl ⟨M61, ?_⟩ ?_
     · exact ⟨by assumption, hFB, rfl, by decide, by omega⟩
     ·rintro ⟨S_, t, f, i⟩ h63 ⟨M64, ⟨G_, hT, hB, hf8, hi⟩⟩
      replace eL62 := eL62.symm; subst eL62
      refine WC.env [(3, _), (9, _), (10, _), (12, _), (13, _), (14, _), (15, _)] rfl ?_
      refine F (F (WC.run (C rfl rfl (C rfl rfl (C rfl (op_lenVS A2 rfl) ?_)))))
      refine WS.lssN (a := i) (b := (parts).length) rfl rfl rfl (fun e65 => ?_) (fun e65 => ?_)
      ·
       refine C rfl rfl (C rfl rfl ?_)
       refine WS.eqlN (a := f) (b := 0) rfl rfl rfl (fun e68 => ?_) (fun e68 => ?_)
       ·
        refine C rfl rfl (D [(3, _), (9, _), (10, _), (12, _), (13, _), (14, _), (15, _), (69, _)] rfl ?_)
        refine WC.condT rfl (WC.skip (F (WC.block (F (WC.run (C rfl rfl (C rfl rfl ?_)))))))
        obtain ⟨y74, hy74⟩ : ∃ y, (parts)[i]? = some y := ⟨_, List.getElem?_eq_getElem (show i < (parts).length by first | omega | (simp only [List.length_drop, List.length_take, List.length_append, List.length_cons, List.length_nil, List.length_singleton]; omega) | (simp only [List.length_drop, List.length_take, List.length_append, List.length_cons, List.length_nil, List.length_singleton] at *; omega))⟩
        refine WS.iaVS A2 i hy74 rfl rfl rfl rfl ?_
        intro b74_ o74_ ha74
        refine C rfl rfl (C rfl (op_ldH rfl (At.ld0 (ha74.mono M64.sub) rfl)) ?_)
        refine WS.eqlN (a := (y74.op).toNat) (b := 2) rfl rfl rfl (fun e77 => ?_) (fun e77 => ?_)
        ·
         refine D [(3, _), (9, _), (10, _), (12, _), (13, _), (14, _), (15, _), (77, _)] rfl ?_
         refine WC.condT rfl (WC.draw M64 [] rfl ?_)
         intro rb65 h66 M67
         refine C rfl rfl (C rfl rfl (C rfl rfl ?_))
         refine WS.iaVS A2 i hy74 rfl rfl rfl rfl ?_
         intro b81_ o81_ ha81
         refine C rfl rfl (C rfl (op_ldH rfl (At.ld (k := 1) (ha81.mono M67.sub) rfl)) (C rfl rfl (C rfl rfl ?_)))
         refine WS.iaVS A2 i hy74 rfl rfl rfl rfl ?_
         intro b86_ o86_ ha86
         refine C rfl rfl (C rfl (op_ldH rfl (At.ld (k := 2) (ha86.mono M67.sub) rfl)) ?_)
         refine WS.call rfl rfl rfl (kPut_st (key := y74.ky) (val := y74.va) (ls := 0) G_ (M67.bare.focus 0 rfl) hT.good.ok (Nat.le_trans hT.n (by omega)) (Nat.le_trans (hpk _ (List.mem_of_getElem? hy74)).1 (by omega)) (Nat.le_trans (hpk _ (List.mem_of_getElem? hy74)).2 (by omega)) (show t.v < 18446744073709551615 from Nat.lt_of_le_of_lt hT.v (by omega))) ?_
         rintro _ h68 ⟨rfl, S70, G71, M69⟩
         replace M69 : Mem _ _ (S70 :: S58 :: S13 :: [(p9, _)] :: []) _ := M69
         refine C rfl rfl (D [(3, _), (9, _), (10, _), (12, _), (13, _), (14, _), (15, _)] rfl ?_)
         refine WC.run (C rfl rfl (WS.opV (.int .i64 (((i + 1) : Nat) : Int)) rfl rfl (add_i64 (a := i) (b := 1) (by omega)) (C rfl rfl (D [(3, _), (9, _), (10, _), (12, _), (13, _), (14, _), (15, _)] rfl ?_))))
         refine ⟨(S70, (putK t y74.ky y74.va 0).1, (putK t y74.ky y74.va 0).2, i + 1), rfl, ⟨(((((M69.bare.bare.focus 3 rfl).focus 3 rfl).focus 3 rfl).focus 3 rfl).take 4), ?_⟩, ?_⟩
         · exact ⟨G71, put_fit hT (by omega) |>.mono (by omega) (by omega) (by have := hpk _ (List.mem_of_getElem? hy74); omega), by rw [show f = 0 by assumption] at hB; exact batI_put hB hy74 e77, put_small _ _ _ _, by omega⟩
         · simp only []; omega
        ·
         refine D [(3, _), (9, _), (10, _), (12, _), (13, _), (14, _), (15, _), (77, _)] rfl ?_
         refine WC.condF rfl (WC.run (C rfl rfl (C rfl rfl (C rfl rfl ?_))))
         refine WS.iaVS A2 i hy74 rfl rfl rfl rfl ?_
         intro b93_ o93_ ha93
         refine C rfl rfl (C rfl (op_ldH rfl (At.ld (k := 1) (ha93.mono M64.sub) rfl)) ?_)
         refine WS.call rfl rfl rfl (kDelete_st (key := y74.ky) G_ (M64.bare.focus 0 rfl) hT.good.ok (Nat.le_trans hT.n (by omega)) (Nat.le_trans (hpk _ (List.mem_of_getElem? hy74)).1 (by omega)) (show t.v < 18446744073709551615 from Nat.lt_of_le_of_lt hT.v (by omega))) ?_
         rintro _ h72 ⟨rfl, S74, G75, M73⟩
         replace M73 : Mem _ _ (S74 :: S58 :: S13 :: [(p9, _)] :: []) _ := M73
         refine D [(3, _), (9, _), (10, _), (12, _), (13, _), (14, _), (15, _)] rfl ?_
         refine WC.run (C rfl rfl (WS.opV (.int .i64 (((i + 1) : Nat) : Int)) rfl rfl (add_i64 (a := i) (b := 1) (by omega)) (C rfl rfl (D [(3, _), (9, _), (10, _), (12, _), (13, _), (14, _), (15, _)] rfl ?_))))
         refine ⟨(S74, (delK t y74.ky).1, f, i + 1), rfl, ⟨(((((M73.bare.focus 3 rfl).focus 3 rfl).focus 3 rfl).focus 3 rfl).take 4), ?_⟩, ?_⟩
         · exact ⟨G75, del_fit hT (by omega) |>.mono (by omega) (by omega) (by omega), by rw [show f = 0 by assumption] at hB ⊢; exact batI_del hB hy74 e77, by omega, by omega⟩
         · simp only []; omega
       ·
        refine C rfl rfl (D [(3, _), (9, _), (10, _), (12, _), (13, _), (14, _), (15, _), (69, _)] rfl ?_)
        refine WC.condF rfl (WC.exit ?_)
        refine F (F (WC.run ?_))
        have hE := batI_end hB (by first | (left; omega) | (right; omega))
        refine C rfl rfl (C rfl rfl ?_)
        refine WS.neqN (a := (batK (runK (⟨[], heldK (kz).toInt, heldK (bz).toInt, 0⟩ : KS) l) parts).2) (b := f) rfl rfl rfl (fun e99 => ?_) (fun e99 => ?_)
        ·
         (exfalso; rw [hE] at e99; by_cases q : f = 0; (rw [if_pos q] at e99; exact e99 q.symm); (rw [if_neg q] at e99; exact e99 rfl))
        ·
         refine D [(9, _), (10, _), (12, _), (13, _), (99, _)] rfl ?_
         refine WC.condF rfl (WC.skip (F (F (WC.run (C rfl rfl ?_)))))
         refine WS.neqN (a := (batK (runK (⟨[], heldK (kz).toInt, heldK (bz).toInt, 0⟩ : KS) l) parts).2) (b := 0) rfl rfl rfl (fun e101 => ?_) (fun e101 => ?_)
         ·
          refine D [(9, _), (10, _), (12, _), (101, _)] rfl ?_
          refine WC.condT rfl (F (WC.run (C rfl rfl ?_)))
          refine WS.call rfl rfl rfl (kWrite_st  G59 (M64.bare.focus 1 rfl) hFBt.good.ok (fitN hFBt) (Nat.lt_of_lt_of_le (fitV hFBt) (by decide))) ?_
          rintro _ h76 ⟨rfl, S78, G79, M77⟩
          replace M77 : Mem _ _ (S78 :: S_ :: S13 :: [(p9, _)] :: []) _ := M77
          refine C rfl rfl ?_
          refine WS.seql (l := (wrK ((batK (runK (⟨[], heldK (kz).toInt, heldK (bz).toInt, 0⟩ : KS) l) parts).1))) (m := (wrK (runK (⟨[], heldK (kz).toInt, heldK (bz).toInt, 0⟩ : KS) l))) rfl rfl rfl (fun e105 => ?_) (fun e105 => ?_)
          ·
           refine C rfl rfl ?_
           refine WS.call rfl rfl rfl (awake16_ran M77.here ) ?_
           rintro _ h80 ⟨rfl, N81⟩
           have M82 := M77.trans N81
           refine C rfl rfl (C rfl rfl (D [(8, _)] rfl ?_))
           refine WC.ret (⟨[_], (res_tmp rfl res_nil), ?_⟩)
           rfl
          ·
           (exfalso; rw [hE] at e105 e101; by_cases q : f = 0; (rw [if_pos q] at e101; exact e101 rfl); (rw [if_neg q] at e105; exact e105 rfl))
         ·
          refine D [(9, _), (10, _), (12, _), (101, _)] rfl ?_
          refine WC.condF rfl (WC.skip (F (WC.run (C rfl rfl ?_))))
          refine WS.call rfl rfl rfl (kWrite_st  G59 (M64.bare.focus 1 rfl) hFBt.good.ok (fitN hFBt) (Nat.lt_of_lt_of_le (fitV hFBt) (by decide))) ?_
          rintro _ h83 ⟨rfl, S85, G86, M84⟩
          replace M84 : Mem _ _ (S85 :: S_ :: S13 :: [(p9, _)] :: []) _ := M84
          refine C rfl rfl ?_
          refine WS.call rfl rfl rfl (kWrite_st  G_ (M84.bare.focus 1 rfl) hT.good.ok (Nat.le_trans hT.n (by omega)) (Nat.lt_of_lt_of_le (show t.v < 18446744073709551615 from Nat.lt_of_le_of_lt hT.v (by omega)) (by decide))) ?_
          rintro _ h87 ⟨rfl, S89, G90, M88⟩
          replace M88 : Mem _ _ (S89 :: S85 :: S13 :: [(p9, _)] :: []) _ := M88
          refine WS.seql (l := (wrK ((batK (runK (⟨[], heldK (kz).toInt, heldK (bz).toInt, 0⟩ : KS) l) parts).1))) (m := (wrK t)) rfl rfl rfl (fun e113 => ?_) (fun e113 => ?_)
          ·
           refine C rfl rfl ?_
           refine WS.call rfl rfl rfl (awake16_ran M88.here ) ?_
           rintro _ h91 ⟨rfl, N92⟩
           have M93 := M88.trans N92
           refine C rfl rfl (C rfl rfl (D [(8, _)] rfl ?_))
           refine WC.ret (⟨[_], (res_tmp rfl res_nil), ?_⟩)
           rfl
          ·
           (exfalso; rw [hE] at e113 e101; by_cases q : f = 0; (rw [if_pos q] at e113; exact e113 rfl); (rw [if_neg q] at e101; exact q e101))
      ·
       refine C rfl rfl (WS.off rfl (WS.off rfl (C rfl rfl (D [(3, _), (9, _), (10, _), (12, _), (13, _), (14, _), (15, _), (69, _)] rfl ?_))))
       refine WC.condF rfl (WC.exit ?_)
       refine F (F (WC.run ?_))
       have hE := batI_end hB (by first | (left; omega) | (right; omega))
       refine C rfl rfl (C rfl rfl ?_)
       refine WS.neqN (a := (batK (runK (⟨[], heldK (kz).toInt, heldK (bz).toInt, 0⟩ : KS) l) parts).2) (b := f) rfl rfl rfl (fun e99 => ?_) (fun e99 => ?_)
       ·
        (exfalso; rw [hE] at e99; by_cases q : f = 0; (rw [if_pos q] at e99; exact e99 q.symm); (rw [if_neg q] at e99; exact e99 rfl))
       ·
        refine D [(9, _), (10, _), (12, _), (13, _), (99, _)] rfl ?_
        refine WC.condF rfl (WC.skip (F (F (WC.run (C rfl rfl ?_)))))
        refine WS.neqN (a := (batK (runK (⟨[], heldK (kz).toInt, heldK (bz).toInt, 0⟩ : KS) l) parts).2) (b := 0) rfl rfl rfl (fun e101 => ?_) (fun e101 => ?_)
        ·
         refine D [(9, _), (10, _), (12, _), (101, _)] rfl ?_
         refine WC.condT rfl (F (WC.run (C rfl rfl ?_)))
         refine WS.call rfl rfl rfl (kWrite_st  G59 (M64.bare.focus 1 rfl) hFBt.good.ok (fitN hFBt) (Nat.lt_of_lt_of_le (fitV hFBt) (by decide))) ?_
         rintro _ h94 ⟨rfl, S96, G97, M95⟩
         replace M95 : Mem _ _ (S96 :: S_ :: S13 :: [(p9, _)] :: []) _ := M95
         refine C rfl rfl ?_
         refine WS.seql (l := (wrK ((batK (runK (⟨[], heldK (kz).toInt, heldK (bz).toInt, 0⟩ : KS) l) parts).1))) (m := (wrK (runK (⟨[], heldK (kz).toInt, heldK (bz).toInt, 0⟩ : KS) l))) rfl rfl rfl (fun e105 => ?_) (fun e105 => ?_)
         ·
          refine C rfl rfl ?_
          refine WS.call rfl rfl rfl (awake16_ran M95.here ) ?_
          rintro _ h98 ⟨rfl, N99⟩
          have M100 := M95.trans N99
          refine C rfl rfl (C rfl rfl (D [(8, _)] rfl ?_))
          refine WC.ret (⟨[_], (res_tmp rfl res_nil), ?_⟩)
          rfl
         ·
          (exfalso; rw [hE] at e105 e101; by_cases q : f = 0; (rw [if_pos q] at e101; exact e101 rfl); (rw [if_neg q] at e105; exact e105 rfl))
        ·
         refine D [(9, _), (10, _), (12, _), (101, _)] rfl ?_
         refine WC.condF rfl (WC.skip (F (WC.run (C rfl rfl ?_))))
         refine WS.call rfl rfl rfl (kWrite_st  G59 (M64.bare.focus 1 rfl) hFBt.good.ok (fitN hFBt) (Nat.lt_of_lt_of_le (fitV hFBt) (by decide))) ?_
         rintro _ h101 ⟨rfl, S103, G104, M102⟩
         replace M102 : Mem _ _ (S103 :: S_ :: S13 :: [(p9, _)] :: []) _ := M102
         refine C rfl rfl ?_
         refine WS.call rfl rfl rfl (kWrite_st  G_ (M102.bare.focus 1 rfl) hT.good.ok (Nat.le_trans hT.n (by omega)) (Nat.lt_of_lt_of_le (show t.v < 18446744073709551615 from Nat.lt_of_le_of_lt hT.v (by omega)) (by decide))) ?_
         rintro _ h105 ⟨rfl, S107, G108, M106⟩
         replace M106 : Mem _ _ (S107 :: S103 :: S13 :: [(p9, _)] :: []) _ := M106
         refine WS.seql (l := (wrK ((batK (runK (⟨[], heldK (kz).toInt, heldK (bz).toInt, 0⟩ : KS) l) parts).1))) (m := (wrK t)) rfl rfl rfl (fun e113 => ?_) (fun e113 => ?_)
         ·
          refine C rfl rfl ?_
          refine WS.call rfl rfl rfl (awake16_ran M106.here ) ?_
          rintro _ h109 ⟨rfl, N110⟩
          have M111 := M106.trans N110
          refine C rfl rfl (C rfl rfl (D [(8, _)] rfl ?_))
          refine WC.ret (⟨[_], (res_tmp rfl res_nil), ?_⟩)
          rfl
         ·
          (exfalso; rw [hE] at e113 e101; by_cases q : f = 0; (rw [if_pos q] at e113; exact e113 rfl); (rw [if_neg q] at e101; exact q e101))
  ·
   refine WC.condT rfl (F (WC.run (WS.call rfl rfl rfl (awake16_ran M20.here ) ?_)))
   rintro _ h112 ⟨rfl, N113⟩
   have M114 := M20.trans N113
   refine C rfl rfl (D [(8, _)] rfl ?_)
   refine WC.ret (⟨[_], (res_tmp rfl res_nil), ?_⟩)
   rfl
end Go.Proofs.Ytkfjlbdedjoojaa.Wt
