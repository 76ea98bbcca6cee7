/- The law 'KvPlays' returns true for all arguments: what its proof stands on, part 8. -/
import Derived.Test.YtkfjlbdedjoojaaZKvPlays7
import Derived.OpenShut
namespace Go.Proofs.Ytkfjlbdedjoojaa.Am
open Go
set_option linter.unusedVariables false
set_option linter.unusedSimpArgs false
abbrev BL := List (Option Blk × Option Am.Loc)
def CompR (r : Rho) (k : Nat) (bl : BL) : Prop := ∀ i p, bl[i]? = some p → r (k + i) = p.2
def CompH (h : H) (k : Nat) (bl : BL) : Prop := ∀ i p, bl[i]? = some p → ∀ B, p.1 = some B → h.get (k + i) = some B
def BlkOK (W : World) (r : Rho) (p : Option Blk × Option Am.Loc) : Prop := ∀ B, p.1 = some B → ∃ L c e fz, p.2 = some L ∧ W.heap[L.b]? = some (.cells c e fz) ∧ L.es = B.es ∧ B.cells.length ≤ L.lim ∧ L.o + L.lim ≤ c.size ∧ B.ro = true ∧
  ∀ (i : Nat) (v : Value), B.cells[i]? = some v → v.oneCell' = true ∧ ∃ v', c[L.o + i]? = some v' ∧ VR r v v'
theorem CompR.left {r : Rho} {k : Nat} {a b : BL} (h : CompR r k (a ++ b)) : CompR r k a := fun i p hp => h i p (by rw [List.getElem?_append_left (List.getElem?_eq_some_iff.1 hp).1]; exact hp)
theorem CompR.right {r : Rho} {k : Nat} {a b : BL} (h : CompR r k (a ++ b)) : CompR r (k + a.length) b := fun i p hp => by
  have := h (a.length + i) p (by rw [List.getElem?_append_right (by omega), Nat.add_sub_cancel_left]; exact hp)
  rw [← this]; congr 1; omega
theorem CompH.left {r : H} {k : Nat} {a b : BL} (h : CompH r k (a ++ b)) : CompH r k a := fun i p hp => h i p (by rw [List.getElem?_append_left (List.getElem?_eq_some_iff.1 hp).1]; exact hp)
theorem CompH.right {r : H} {k : Nat} {a b : BL} (h : CompH r k (a ++ b)) : CompH r (k + a.length) b := fun i p hp B hB => by
  have := h (a.length + i) p (by rw [List.getElem?_append_right (by omega), Nat.add_sub_cancel_left]; exact hp) B hB
  rw [← this]; congr 1; omega
abbrev Lay (α : Type) := H → α → List Value → Prop
def Given (W : World) (k n : Nat) {α : Type} (L : Lay α) (ok : α → Prop) (cs : List Value) : Prop :=
  ∃ (a : α) (bl : BL) (acs : List Value), acs.length = n ∧ acs.all (·.oneCell') = true ∧ (∀ r, CompR r k bl → (∀ p ∈ bl, BlkOK W r p) ∧ VL r acs cs) ∧ (∀ h, CompH h k bl → L h a acs) ∧ ok a
def OpensL (P : Program) (t : TypeId) {α : Type} (L : Lay α) (n : Nat) (ok : α → Prop) : Prop :=
  P.cellsOf t = n ∧ ∀ {Hh : Type} (enc : TypeId × Value → Hh) (W : World) (held : Bool) (fuel : Nat) (cs : List Value) (x : DataW Hh × List MemPlace), DataW.trod enc P W 0 (fun _ => true) held fuel t cs = some x → ∀ k, Given W k n L ok cs
section
variable {P : Program} {t e : TypeId}
theorem given_plain {W : World} {k : Nat} {α : Type} {L : Lay α} {ok : α → Prop} {v : Value} (a : α) (hp : plain1 v = true) (hL : ∀ h, L h a [v]) (ho : ok a) : Given W k 1 L ok [v] :=
  ⟨a, [], [v], rfl, by simp [oneCell_of_plain1 hp], fun r _ => ⟨fun p hp => by simp at hp, VL.cons (VR.of_plain1 hp) (VL.nil r)⟩, fun h _ => hL h, ho⟩
def layU8 : Lay UInt8 := fun _ a cs => cs = [.int .u8 ((a.toNat : Nat) : Int)]
def layU64 : Lay UInt64 := fun _ a cs => cs = [.int .u64 ((a.toNat : Nat) : Int)]
def layI64 : Lay Int64 := fun _ a cs => cs = [.int .i64 a.toInt]
def layStr : Lay (List UInt8) := fun _ a cs => cs = [.string (bs a)]
theorem OpensL.u8 (ht : P.underlying t = some (.int .u8)) (hc : P.cellsOf t = 1) : OpensL P t layU8 1 (fun _ => True) := by
  refine ⟨hc, fun enc W held fuel cs x h k => ?_⟩
  obtain ⟨n, rfl, _, hw⟩ := DataW.trod_int ht h
  have hw : 0 ≤ n ∧ n ≤ 255 := by simpa [Lit.wf, IntKind.min, IntKind.max, IntKind.signed, IntKind.bits] using hw
  have e : n = (((UInt8.ofNat n.toNat).toNat : Nat) : Int) := by rw [UInt8.toNat_ofNat']; omega
  exact given_plain (UInt8.ofNat n.toNat) rfl (fun _ => by show _ = _; rw [← e]) trivial
theorem OpensL.u64 (ht : P.underlying t = some (.int .u64)) (hc : P.cellsOf t = 1) : OpensL P t layU64 1 (fun _ => True) := by
  refine ⟨hc, fun enc W held fuel cs x h k => ?_⟩
  obtain ⟨n, rfl, _, hw⟩ := DataW.trod_int ht h
  have hw : 0 ≤ n ∧ n ≤ 18446744073709551615 := by simpa [Lit.wf, IntKind.min, IntKind.max, IntKind.signed, IntKind.bits] using hw
  have e : n = (((UInt64.ofNat n.toNat).toNat : Nat) : Int) := by rw [UInt64.toNat_ofNat']; omega
  exact given_plain (UInt64.ofNat n.toNat) rfl (fun _ => by show _ = _; rw [← e]) trivial
theorem OpensL.i64 (ht : P.underlying t = some (.int .i64)) (hc : P.cellsOf t = 1) : OpensL P t layI64 1 (fun _ => True) := by
  refine ⟨hc, fun enc W held fuel cs x h k => ?_⟩
  obtain ⟨n, rfl, _, hw⟩ := DataW.trod_int ht h
  have hw : -9223372036854775808 ≤ n ∧ n ≤ 9223372036854775807 := by simpa [Lit.wf, IntKind.min, IntKind.max, IntKind.signed, IntKind.bits] using hw
  have e : (Int64.ofInt n).toInt = n := Int64.toInt_ofInt_of_le (by omega) (by omega)
  exact given_plain (Int64.ofInt n) rfl (fun _ => by show _ = _; rw [e]) trivial
theorem OpensL.string (ht : P.underlying t = some .string) (hc : P.cellsOf t = 1) : OpensL P t layStr 1 (fun a => a.length < 9223372036854775808) := by
  refine ⟨hc, fun enc W held fuel cs x h k => ?_⟩
  obtain ⟨s, rfl, _, hs⟩ := DataW.trod_string ht h
  obtain ⟨l, rfl⟩ := bs_of s
  rw [bs_size] at hs
  exact given_plain l rfl (fun _ => rfl) (Nat.lt_succ_of_le hs)
inductive SlL {α : Type} (L : Lay α) (n : Nat) (h : H) : Value → List α → Prop
  | nil : SlL L n h (.slice none 0 0) []
  | emp (a : Addr) (c : Nat) : SlL L n h (.slice (some a) 0 c) []
  | row (b c : Nat) (l : List α) (cells : List Value) (hg : h.get b = some ⟨cells, n, true⟩) (hl : cells.length = l.length * n) (he : ∀ (j : Nat) (y : α), l[j]? = some y → L h y ((cells.drop (j * n)).take n)) : SlL L n h (.slice (some ⟨b, 0, none⟩) l.length c) l
def laySl {α : Type} (L : Lay α) (n : Nat) : Lay (List α) := fun h l cs => ∃ V, cs = [V] ∧ SlL L n h V l
theorem chunk_append {α : Type} {a b : List α} {n q j : Nat} (ha : a.length = q * n) (hj : j < q) : ((a ++ b).drop (j * n)).take n = (a.drop (j * n)).take n := by
  have : (j + 1) * n ≤ q * n := Nat.mul_le_mul_right n (by omega)
  rw [Nat.add_mul, Nat.one_mul] at this
  rw [List.drop_append_of_le_length (by omega), List.take_append_of_le_length (by rw [List.length_drop]; omega)]
theorem chunk_last {α : Type} {a b : List α} {n q : Nat} (ha : a.length = q * n) (hb : b.length = n) : ((a ++ b).drop (q * n)).take n = b := by
  rw [← ha, List.drop_left, List.take_of_length_le (by omega)]
theorem OpensL.slice {α : Type} {L : Lay α} {n : Nat} {ok : α → Prop} (ht : P.underlying t = some (.slice e)) (hct : P.cellsOf t = 1) (hn : 0 < n) (h : OpensL P e L n ok) : OpensL P t (laySl L n) 1 (fun l => l.length < 9223372036854775808 ∧ ∀ x ∈ l, ok x) := by
  obtain ⟨hc, h⟩ := h
  refine ⟨hct, fun {Hh} enc W held fuel cs x hx k => ?_⟩
  rcases Go.Deep.open_slice ht hx with ⟨rfl, _⟩ | ⟨a, len, cap, m, fu, D, Pl, rfl, hb, hl, hm, hmm, _, hel⟩
  · exact ⟨[], [], [.slice none 0 0], rfl, rfl, fun r _ => ⟨fun p hp => by simp at hp, VL.cons .sl0 (VL.nil r)⟩, fun h _ => ⟨_, rfl, .nil⟩, by simp, by simp⟩
  have hmc : m = cap := by simpa using hmm
  subst hmc
  have hmx : m ≤ 9223372036854775807 := hm
  by_cases hlen : len = 0
  · subst hlen
    by_cases hcap : m = 0
    · subst hcap
      exact ⟨[], [], [.slice (some ⟨0, 0, none⟩) 0 1], rfl, rfl, fun r _ => ⟨fun p hp => by simp at hp, VL.cons (.sl (.inr rfl) (Nat.le_refl _) (by omega) (fun _ => rfl) (fun q => by omega)) (VL.nil r)⟩, fun h _ => ⟨_, rfl, .emp _ _⟩, by simp, by simp⟩
    ·
      obtain ⟨cs0, g0, _⟩ := hel 0 (by omega)
      have g4 := (World.cells?_some g0).2.2 0 (by rw [hc]; exact hn)
      have hl0 := (World.cells?_some g0).2.1
      obtain ⟨v0, hv0⟩ : ∃ v, cs0[0]? = some v := ⟨_, List.getElem?_eq_getElem (by rw [hl0, hc]; exact hn)⟩
      rw [hv0] at g4
      obtain ⟨hs, _⟩ := cell_heap g4
      have hspot : a.spot = none := by
        have : (a.add (0 * P.cellsOf e)).add 0 = a := by rw [Nat.zero_mul]; rfl
        rw [this] at hs; exact hs
      refine ⟨[], [(none, some ⟨a.block, a.off, 0, n⟩)], [.slice (some ⟨k, 0, none⟩) 0 (2 * m + 1)], rfl, rfl, fun r hr => ⟨fun p hp B hB => (by simp at hp; subst hp; cases hB), VL.cons (.sl (.inl ⟨rfl, _, hr 0 _ rfl, ?_⟩) (by omega) (by omega) (fun _ => by omega) (fun q => by omega)) (VL.nil r)⟩, fun h _ => ⟨_, rfl, .emp _ _⟩, by simp, by simp⟩
      obtain ⟨ab, ao, asp⟩ := a
      simp only at hspot; subst hspot; rfl
  have hq : ∀ q, q ≤ len → ∃ (l : List α) (bl : BL) (acs : List Value), l.length = q ∧ acs.length = q * n ∧ acs.all (·.oneCell') = true ∧ (∀ r, CompR r (k + 1) bl → (∀ p ∈ bl, BlkOK W r p) ∧ ∀ j, j < q → ∃ cs', W.cells? 0 (a.add (j * n)) n = some cs' ∧ VL r ((acs.drop (j * n)).take n) cs') ∧
      (∀ h, CompH h (k + 1) bl → ∀ (j : Nat) (y : α), l[j]? = some y → L h y ((acs.drop (j * n)).take n)) ∧ ∀ x ∈ l, ok x := by
    intro q
    induction q with
    | zero => intro _; exact ⟨[], [], [], rfl, by simp, rfl, fun r _ => ⟨fun p hp => by simp at hp, fun j hj => by omega⟩, fun h _ j y hj => by simp at hj, by simp⟩
    | succ q ih =>
      intro hq2
      obtain ⟨l, bl, acs, l1, l2, l3, l4, l5, l6⟩ := ih (by omega)
      obtain ⟨cs', g1, g2⟩ := hel q (by omega)
      rw [hc] at g1
      obtain ⟨y, bl2, acs2, m1, m2, m3, m4, m5⟩ := h enc W held fu cs' _ g2 (k + 1 + bl.length)
      refine ⟨l ++ [y], bl ++ bl2, acs ++ acs2, by simp [l1], by rw [List.length_append, l2, m1, Nat.add_mul, Nat.one_mul], by rw [List.all_append, l3, m2]; rfl, fun r hr => ⟨fun p hp => ?_, fun j hj => ?_⟩, fun h hh j z hj => ?_, fun z hz => ?_⟩
      · rcases List.mem_append.1 hp with hp | hp
        · exact (l4 r hr.left).1 p hp
        · exact (m3 r hr.right).1 p hp
      · by_cases hjq : j < q
        · rw [chunk_append l2 hjq]; exact (l4 r hr.left).2 j hjq
        · have : j = q := by omega
          subst this
          rw [chunk_last l2 m1]; exact ⟨cs', g1, (m3 r hr.right).2⟩
      · have hj2 := (List.getElem?_eq_some_iff.1 hj).1
        rw [List.length_append, l1] at hj2; simp at hj2
        by_cases hjq : j < q
        · rw [List.getElem?_append_left (by omega)] at hj
          rw [chunk_append l2 hjq]; exact l5 h hh.left j z hj
        · have : j = q := by omega
          subst this
          rw [List.getElem?_append_right (by omega), l1, Nat.sub_self] at hj
          simp at hj; subst hj
          rw [chunk_last l2 m1]; exact m4 h hh.right
      · rcases List.mem_append.1 hz with hz | hz
        · exact l6 z hz
        · rw [List.mem_singleton.1 hz]; exact m5
  obtain ⟨l, bl, acs, l1, l2, l3, l4, l5, l6⟩ := hq len (Nat.le_refl _)
  obtain ⟨cs0, g0, _⟩ := hel 0 (by omega)
  have g4 := (World.cells?_some g0).2.2 0 (by rw [hc]; exact hn)
  have hl0 := (World.cells?_some g0).2.1
  obtain ⟨v0, hv0⟩ : ∃ v, cs0[0]? = some v := ⟨_, List.getElem?_eq_getElem (by rw [hl0, hc]; exact hn)⟩
  rw [hv0] at g4
  obtain ⟨hs, c, el, fz, hh, hcell⟩ := cell_heap g4
  rw [(add_block _ _).1, (add_block _ _).1] at hh
  have hspot : a.spot = none := by
    have : (a.add (0 * P.cellsOf e)).add 0 = a := by rw [Nat.zero_mul]; rfl
    rw [this] at hs; exact hs
  have all : ∀ (j : Nat) (cs' : List Value), W.cells? 0 (a.add (j * n)) n = some cs' → ∀ (i : Nat) (v : Value), cs'[i]? = some v → c[a.off + (j * n + i)]? = some v := fun j cs' hy i v hv => by
    obtain ⟨_, q2, q3⟩ := World.cells?_some hy
    have hi : i < n := by have := (List.getElem?_eq_some_iff.1 hv).1; omega
    have q4 := q3 i hi
    rw [hv] at q4
    obtain ⟨_, c2, el2, fz2, hh2, hcell2⟩ := cell_heap q4
    rw [(add_block _ _).1, (add_block _ _).1, hh] at hh2
    cases hh2
    rw [(add_block _ _).2, (add_block _ _).2] at hcell2
    rw [← hcell2]; congr 1; omega
  have hsz : a.off + len * n ≤ c.size := by
    obtain ⟨csl, e1, _⟩ := hel (len - 1) (by omega)
    rw [hc] at e1
    have q2 := (World.cells?_some e1).2.1
    have hv := all (len - 1) csl e1 (n - 1) _ (List.getElem?_eq_getElem (by omega))
    have := (Array.getElem?_eq_some_iff.1 hv).1
    have e2 : (len - 1) * n + n = len * n := by
      obtain ⟨q, rfl⟩ : ∃ q, len = q + 1 := ⟨len - 1, by omega⟩
      simp only [Nat.add_sub_cancel, Nat.add_mul, Nat.one_mul]
    omega
  refine ⟨l, (some ⟨acs, n, true⟩, some ⟨a.block, a.off, len * n, n⟩) :: bl, [.slice (some ⟨k, 0, none⟩) len (2 * m + 1)], rfl, rfl, fun r hr => ?_, fun h hH => ?_, by omega, l6⟩
  · have hr0 : r k = some ⟨a.block, a.off, len * n, n⟩ := hr 0 _ rfl
    have hr1 : CompR r (k + 1) bl := fun i p hp => by rw [Nat.add_assoc, Nat.add_comm 1 i]; exact hr (i + 1) p hp
    obtain ⟨r1, r2⟩ := l4 r hr1
    refine ⟨fun p hp => ?_, VL.cons (.sl (.inl ⟨rfl, _, hr0, ?_⟩) hl (by omega) (fun _ => by omega) (fun q => by omega)) (VL.nil r)⟩
    · rcases List.mem_cons.1 hp with rfl | hp
      · intro B hB
        cases hB
        refine ⟨_, c, el, fz, rfl, hh, rfl, by show acs.length ≤ len * n; omega, hsz, rfl, fun i v hv => ⟨List.all_eq_true.1 l3 v (List.mem_of_getElem? hv), ?_⟩⟩
        have hi := (List.getElem?_eq_some_iff.1 hv).1
        have hv : acs[i]? = some v := hv
        have hi : i < acs.length := hi
        have hj : i / n < len := Nat.div_lt_of_lt_mul (by rw [Nat.mul_comm]; omega)
        have he : i = i / n * n + i % n := by rw [Nat.mul_comm]; exact (Nat.div_add_mod i n).symm
        obtain ⟨cs', s1, s2⟩ := r2 (i / n) hj
        have hk : ((acs.drop (i / n * n)).take n)[i % n]? = some v := by
          rw [List.getElem?_take, if_pos (Nat.mod_lt _ hn), List.getElem?_drop, ← he]; exact hv
        obtain ⟨v', t1, t2⟩ := s2.get hk
        refine ⟨v', ?_, t2⟩
        have := all (i / n) cs' s1 (i % n) v' t1
        rw [← he] at this; exact this
      · exact r1 p hp
    · obtain ⟨ab, ao, asp⟩ := a
      simp only at hspot; subst hspot; rfl
  · have h0 : h.get k = some ⟨acs, n, true⟩ := hH 0 _ rfl _ rfl
    have h1 : CompH h (k + 1) bl := fun i p hp B hB => by rw [Nat.add_assoc, Nat.add_comm 1 i]; exact hH (i + 1) p hp B hB
    refine ⟨_, rfl, ?_⟩
    have := SlL.row (L := L) (n := n) (h := h) k (2 * m + 1) l acs h0 (by rw [l2, l1]) (l5 h h1)
    rw [l1] at this; exact this
def OpensLF (P : Program) (fs : List (TypeId × Nat)) (o : Nat) {α : Type} (L : Lay α) (n : Nat) (ok : α → Prop) : Prop :=
  ∀ {Hh : Type} (enc : TypeId × Value → Hh) (W : World) (held : Bool) (fuel : Nat) (cs : List Value), cs.length = n →
    (∀ f ∈ fs, ∃ x, DataW.trod enc P W 0 (fun _ => true) held fuel f.1 ((cs.drop (f.2 - o)).take (P.cellsOf f.1)) = some x) → ∀ k, Given W k n L ok cs
theorem OpensLF.one {α : Type} {L : Lay α} {n : Nat} {ok : α → Prop} {o : Nat} (h : OpensL P t L n ok) : OpensLF P [(t, o)] o L n ok := by
  intro Hh enc W held fuel cs hl hf
  obtain ⟨x, hx⟩ := hf (t, o) (by simp)
  simp only [Nat.sub_self, List.drop_zero] at hx
  rw [List.take_of_length_le (by rw [h.1]; omega)] at hx
  exact h.2 enc W held fuel cs x hx
def layP {α β : Type} (L : Lay α) (M : Lay β) : Lay (α × β) := fun h x cs => ∃ c1 c2, cs = c1 ++ c2 ∧ L h x.1 c1 ∧ M h x.2 c2
theorem OpensLF.cons {α β : Type} {L : Lay α} {M : Lay β} {n m : Nat} {ok : α → Prop} {ok' : β → Prop} {o o' : Nat} {fs : List (TypeId × Nat)} (ho : o' = o + n) (hfs : ∀ f ∈ fs, o' ≤ f.2) (h : OpensL P t L n ok) (hr : OpensLF P fs o' M m ok') :
    OpensLF P ((t, o) :: fs) o (layP L M) (n + m) (fun x => ok x.1 ∧ ok' x.2) := by
  intro Hh enc W held fuel cs hl hf k
  obtain ⟨x, hx⟩ := hf (t, o) (by simp)
  simp only [Nat.sub_self, List.drop_zero] at hx
  rw [h.1] at hx
  obtain ⟨a, bl, acs, a1, a2, a3, a4, a5⟩ := h.2 enc W held fuel _ x hx k
  obtain ⟨b, bl2, acs2, b1, b2, b3, b4, b5⟩ := hr enc W held fuel (cs.drop n) (by rw [List.length_drop]; omega) (fun f hm => by
    obtain ⟨y, hy⟩ := hf f (by simp [hm])
    have := hfs f hm
    refine ⟨y, ?_⟩
    rw [List.drop_drop, show n + (f.2 - o') = f.2 - o from by omega]
    exact hy) (k + bl.length)
  refine ⟨(a, b), bl ++ bl2, acs ++ acs2, by rw [List.length_append, a1, b1], by rw [List.all_append, a2, b2]; rfl, fun r hr2 => ⟨fun p hp => ?_, ?_⟩, fun h hh => ⟨acs, acs2, rfl, a4 h hh.left, b4 h hh.right⟩, a5, b5⟩
  · rcases List.mem_append.1 hp with hp | hp
    · exact (a3 r hr2.left).1 p hp
    · exact (b3 r hr2.right).1 p hp
  · have := (a3 r hr2.left).2.append (b3 r hr2.right).2
    rwa [List.take_append_drop] at this
def fieldsOf (P : Program) (t : TypeId) : Option (List (TypeId × Nat)) :=
  match P.underlying t with
  | some (.struct fs) => some (fs.toList.map fun f => (f.type, f.offset))
  | _ => none
theorem OpensL.struct {α β : Type} {L : Lay β} {M : Lay α} {n : Nat} {ok : β → Prop} {ok' : α → Prop} {fs : List (TypeId × Nat)} (mk : β → α) (hM : ∀ h b cs, L h b cs → M h (mk b) cs) (hok : ∀ b, ok b → ok' (mk b)) (hfs : fieldsOf P t = some fs) (hc : P.cellsOf t = n) (h : OpensLF P fs 0 L n ok) : OpensL P t M n ok' := by
  refine ⟨hc, fun {Hh} enc W held fuel cs x hx k => ?_⟩
  unfold fieldsOf at hfs
  cases hu : P.underlying t with
  | none => rw [hu] at hfs; cases hfs
  | some u =>
    rw [hu] at hfs
    cases u with
    | struct fa =>
      simp only [Option.some.injEq] at hfs
      obtain ⟨xs, m, _, _, hl, hlen, hget⟩ := DataW.trod_struct hu hx
      obtain ⟨a, bl, acs, a1, a2, a3, a4, a5⟩ := h enc W held m cs (by rw [hl, hc]) (fun g hg => by
        rw [← hfs] at hg
        obtain ⟨fl, hfl, rfl⟩ := List.mem_map.1 hg
        obtain ⟨i, hi, hgi⟩ := List.mem_iff_getElem.1 hfl
        have hia : i < fa.size := by simpa using hi
        have h1 : fa[i]? = some fl := by
          rw [Array.getElem?_eq_getElem hia]
          simpa using hgi
        have h2 := hget i fl h1
        have hix : i < xs.length := by omega
        rw [List.getElem?_eq_getElem hix] at h2
        exact ⟨xs[i], by simpa using h2⟩) k
      exact ⟨mk a, bl, acs, a1, a2, a3, fun h hh => hM h a acs (a4 h hh), hok a a5⟩
    | _ => cases hfs
end
theorem SlL.sl {α : Type} {K : Row α} {h : H} {V : Value} {l : List α} (A : SlL (fun _ y cs => cs = K.cells y) K.n h V l) : K.Sl h V l := by
  cases A with
  | nil => exact .nil
  | emp a c => exact .emp a c
  | row b c l cells hg hl he =>
    have e : cells = K.flat l := by
      apply List.ext_getElem?
      intro i
      by_cases hi : i < cells.length
      · have hj : i / K.n < l.length := Nat.div_lt_of_lt_mul (by rw [Nat.mul_comm]; omega)
        have hi2 : i = i / K.n * K.n + i % K.n := by rw [Nat.mul_comm]; exact (Nat.div_add_mod i K.n).symm
        have h1 := he (i / K.n) _ (List.getElem?_eq_getElem hj)
        have h2 := K.flat_get l (i / K.n) _ (List.getElem?_eq_getElem hj)
        have h3 := congrArg (fun z : List Value => z[i % K.n]?) (h1.trans h2.symm)
        simp only [List.getElem?_take, if_pos (Nat.mod_lt i K.pos), List.getElem?_drop] at h3
        rw [← hi2] at h3; exact h3
      · rw [List.getElem?_eq_none (by omega), List.getElem?_eq_none (by rw [K.flat_length]; omega)]
    subst e
    exact .own hg
theorem rel_bl {W : World} {bl : BL} (hb : ∀ p ∈ bl, BlkOK W (rhoL (bl.map Prod.snd)) p) : Rel W.heap.size (rhoL (bl.map Prod.snd)) (args (bl.map Prod.fst)) W := by
  have pick : ∀ k B, (args (bl.map Prod.fst)).get k = some B → ∃ p, bl[k]? = some p ∧ p.1 = some B := fun k B e => by
    rw [args_get, List.getElem?_map] at e
    cases ho : bl[k]? with
    | none => rw [ho] at e; cases e
    | some p => rw [ho] at e; exact ⟨p, rfl, by simpa using e⟩
  have loc : ∀ k p, bl[k]? = some p → rhoL (bl.map Prod.snd) k = p.2 := fun k p e => by simp [rhoL, List.getElem?_map, e]
  refine ⟨fun k B e => ?_, fun n m Bn Bm L M e1 e2 hne hro => ?_, fun n hn => ?_, Nat.le_refl _, fun n B L e hro hL => ?_, fun n B L c el fz q1 q2 => ?_⟩
  · obtain ⟨p, h1, h2⟩ := pick k B e
    obtain ⟨L, c, el, fz, g1, g2, g3, g4, g5, g6, g7⟩ := hb p (List.mem_of_getElem? h1) B h2
    exact ⟨L, c, el, fz, by rw [loc k p h1, g1], g2, g3, g4, g5, fun q => by (rw [g6] at q; cases q), g7⟩
  · obtain ⟨p, h1, h2⟩ := pick n Bn e1
    obtain ⟨_, _, _, _, _, _, _, _, _, g6, _⟩ := hb p (List.mem_of_getElem? h1) Bn h2
    rw [g6] at hro; cases hro
  · rw [args_next, List.length_map] at hn
    simp [rhoL, List.getElem?_eq_none (show bl.length ≤ n by omega)]
  · obtain ⟨p, h1, h2⟩ := pick n B e
    obtain ⟨L', c, el, fz, g1, g2, _⟩ := hb p (List.mem_of_getElem? h1) B h2
    rw [loc n p h1, g1] at hL; cases hL
    exact (Array.getElem?_eq_some_iff.1 g2).1
  · obtain ⟨p, h1, h2⟩ := pick n B q1
    obtain ⟨_, _, _, _, _, _, _, _, _, g6, _⟩ := hb p (List.mem_of_getElem? h1) B h2
    rw [g6] at q2; cases q2
theorem compR_rho (bl : BL) : CompR (rhoL (bl.map Prod.snd)) 0 bl := fun i p hp => by simp [rhoL, List.getElem?_map, hp]
theorem compH_args (bl : BL) : CompH (args (bl.map Prod.fst)) 0 bl := fun i p hp B hB => by
  rw [args_get, List.getElem?_map, Nat.zero_add, hp]; simp [hB]
theorem wf_args (bl : BL) : Mem (args (bl.map Prod.fst)) (args (bl.map Prod.fst)) [] [] := Mem.start fun n B e => by
  rw [args_get] at e; rw [args_next]
  rcases Nat.lt_or_ge n (bl.map Prod.fst).length with q | q
  · exact q
  · rw [List.getElem?_eq_none q] at e; cases e
def GivenA (W : World) (k : Nat) (us us' : List Value) (bl : BL) : Prop := ∀ r, CompR r k bl → (∀ p ∈ bl, BlkOK W r p) ∧ VL r us us'
theorem GivenA.nil {W : World} {k : Nat} : GivenA W k [] [] [] := fun r _ => ⟨fun p hp => by simp at hp, VL.nil r⟩
theorem GivenA.cons {W : World} {k : Nat} {u u' : Value} {us us' : List Value} {bl bl2 : BL} (h1 : ∀ r, CompR r k bl → (∀ p ∈ bl, BlkOK W r p) ∧ VR r u u') (h2 : GivenA W (k + bl.length) us us' bl2) : GivenA W k (u :: us) (u' :: us') (bl ++ bl2) := fun r hr =>
  ⟨fun p hp => (List.mem_append.1 hp).elim ((h1 r hr.left).1 p) ((h2 r hr.right).1 p), VL.cons (h1 r hr.left).2 (h2 r hr.right).2⟩
theorem given_one {W : World} {k : Nat} {bl : BL} {u v : Value} (h : ∀ r, CompR r k bl → (∀ p ∈ bl, BlkOK W r p) ∧ VL r [u] [v]) : ∀ r, CompR r k bl → (∀ p ∈ bl, BlkOK W r p) ∧ VR r u v := fun r hr =>
  ⟨(h r hr).1, (h r hr).2.2 0 u v rfl rfl⟩
theorem one_of {l : List Value} (h : l.length = 1) : ∃ u, l = [u] := by
  match l, h with
  | [u], _ => exact ⟨u, rfl⟩
theorem law_calls {P : Program} {tab : Nat → Option FD} (hD : DrawOK P) (hT : TabOK P tab) {f : Nat} {W : World} {bl : BL} {us us' : List Value} (hb : ∀ r, CompR r 0 bl → (∀ p ∈ bl, BlkOK W r p) ∧ VL r us us')
    (hw : Cll tab f us (args (bl.map Prod.fst)) (fun v _ => v = .bool true)) : Calls P f us'.toArray W fun e W' => e = .returned (.bool true) ∧ Go.RowKit.Below W.heap.size W W' := by
  obtain ⟨v, h2, ⟨n, hr⟩, rfl⟩ := hw
  obtain ⟨b1, b2⟩ := hb _ (compR_rho bl)
  have R := rel_bl b1
  refine (run_table hD hT n f W.heap.size _ _ W us us' _ _ hr b2 R).2.mono fun e W' he => ?_
  obtain ⟨r2, v', rfl, hv, _, F, _⟩ := he
  cases hv
  exact ⟨rfl, F.below R⟩
end Go.Proofs.Ytkfjlbdedjoojaa.Am
namespace Go.Proofs.Ytkfjlbdedjoojaa.Wt
open Go Go.Proofs.Ytkfjlbdedjoojaa.Am Go.Proofs.Ytkfjlbdedjoojaa.IrAll
set_option linter.unusedVariables false
set_option linter.unusedSimpArgs false
theorem u64_inj {a b : UInt64} (h : a.toNat = b.toNat) : a = b := UInt64.toNat_inj.1 h
structure Ac where
  d : UInt8
  ky : List UInt8
  va : List UInt8
  ls : UInt64
  ps : List PtI
  psp : Option Addr × Nat
  n : Int64
def Ac.cells (x : Ac) : List Value := [(.int .u8 (((x.d).toNat : Nat) : Int)), (.string (bs x.ky)), (.string (bs x.va)), (.int .u64 (((x.ls).toNat : Nat) : Int)), (.slice x.psp.1 x.ps.length x.psp.2), (.int .i64 (x.n).toInt)]
def KAc : Row Ac := ⟨Ac.cells, 6, fun _ => rfl, by decide, fun _ => rfl⟩
theorem RwI_eqV (x y : RwI) : eqV (.agg [(0, 2), (1, 2), (2, 1)]) (.agg (RwI.cells x).toArray) (.agg (RwI.cells y).toArray) = some (decide (x = y)) := by
  have e : eqV (.agg [(0, 2), (1, 2), (2, 1)]) (.agg (RwI.cells x).toArray) (.agg (RwI.cells y).toArray) = some ((((bs x.ky).toList == (bs y.ky).toList) && (((bs x.va).toList == (bs y.va).toList) && ((((x.vn.toNat : Nat) : Int) == ((y.vn.toNat : Nat) : Int)) && true)))) := rfl
  rw [e]; congr 1
  rw [Bool.eq_iff_iff]
  simp only [Bool.and_eq_true, beq_iff_eq, bs_toList, decide_eq_true_eq, Bool.and_true, and_true]
  constructor
  · intro h
    obtain ⟨h0, h1, h2⟩ := h
    obtain ⟨⟩ := x; obtain ⟨⟩ := y
    simp only at *
    rw [h0, h1, u64_inj (Int.ofNat.inj h2)]
  · intro h; subst h; exact ⟨rfl, rfl, rfl⟩
variable {h base h2 : H} {L : List Seg} {R : List Nat}
def Ac.sv (y : Ac) : Value := .slice y.psp.1 y.ps.length y.psp.2
theorem OpensL.re {P : Program} {t : TypeId} {α β : Type} {L : Lay α} {L' : Lay β} {n : Nat} {ok : α → Prop} {ok' : β → Prop} (g : α → List Value → β) (h : OpensL P t L n ok) (hL : ∀ h a cs, L h a cs → L' h (g a cs) cs) (hok : ∀ a cs, ok a → ok' (g a cs)) : OpensL P t L' n ok' :=
  ⟨h.1, fun enc W held fuel cs x e k => by
    obtain ⟨a, bl, acs, h1, h2, h3, h4, h5⟩ := h.2 enc W held fuel cs x e k
    exact ⟨g a acs, bl, acs, h1, h2, h3, fun hh c => hL _ _ _ (h4 hh c), hok _ _ h5⟩⟩
def layAct : Lay Ac := fun h a cs => cs = KAc.cells a ∧ KPtI.Sl h a.sv a.ps
def spOf : Option Value → Option Addr × Nat
  | some (.slice P _ c) => (P, c)
  | _ => (none, 0)
structure A0 where
  d : UInt8
  ky : List UInt8
  va : List UInt8
  ls : UInt64
  ps : List PtI
  n : Int64
def actOf (x : A0) (cs : List Value) : Ac := ⟨x.d, x.ky, x.va, x.ls, x.ps, spOf cs[4]?, x.n⟩
theorem actOf_lay (h : H) (x : A0) (cs : List Value) (q : ∃ V, cs = [.int .u8 ((x.d.toNat : Nat) : Int), .string (bs x.ky), .string (bs x.va), .int .u64 ((x.ls.toNat : Nat) : Int), V, .int .i64 x.n.toInt] ∧ SlL (fun _ y cs => cs = KPtI.cells y) 3 h V x.ps) : layAct h (actOf x cs) cs := by
  obtain ⟨V, rfl, hS⟩ := q
  have A : KPtI.Sl h V x.ps := SlL.sl (K := KPtI) hS
  obtain ⟨P, c, rfl⟩ := A.shape
  exact ⟨rfl, A⟩
theorem opens_5 : OpensL Try.prog 5 layU8 1 (fun _ => True) := OpensL.u8 Try.underlying5 (by kernel_rfl)
theorem opens_9 : OpensL Try.prog 9 layStr 1 (fun a => a.length < 9223372036854775808) := OpensL.string Try.underlying9 (by kernel_rfl)
set_option maxRecDepth 100000 in
theorem opens_61 : OpensL Try.prog 61 (α := PtI) (fun _ y cs => cs = KPtI.cells y) 3 (fun y => y.ky.length < 9223372036854775808 ∧ y.va.length < 9223372036854775808) := by
  refine OpensL.struct (fs := [(5, 0), (9, 1), (9, 2)]) (L := (layP layU8 (layP layStr layStr))) (mk := fun (op, ky, va) => ⟨op, ky, va⟩) ?_ ?_ (by kernel_rfl) (by kernel_rfl) (OpensLF.cons (by decide) (by decide) opens_5 (OpensLF.cons (by decide) (by decide) opens_9 (OpensLF.one opens_9)))
  · rintro h ⟨op, ky, va⟩ cs ⟨_, _, rfl, rfl, ⟨_, _, rfl, rfl, rfl⟩⟩
    rfl
  · rintro ⟨op, ky, va⟩ ⟨k0, k1, k2⟩
    exact ⟨k1, k2⟩
theorem opens_33 : OpensL Try.prog 33 (laySl (fun _ y cs => cs = KPtI.cells y) 3) 1 (fun l => l.length < 9223372036854775808 ∧ ∀ x ∈ l, (fun y => y.ky.length < 9223372036854775808 ∧ y.va.length < 9223372036854775808) x) := OpensL.slice Try.underlying33 (by kernel_rfl) (by decide) opens_61
theorem opens_28 : OpensL Try.prog 28 layU64 1 (fun _ => True) := OpensL.u64 Try.underlying28 (by kernel_rfl)
theorem opens_3 : OpensL Try.prog 3 layI64 1 (fun _ => True) := OpensL.i64 Try.underlying3 (by kernel_rfl)
set_option maxRecDepth 100000 in
theorem opens0_35 : OpensL Try.prog 35 (α := A0) (fun h x cs => ∃ V, cs = [.int .u8 ((x.d.toNat : Nat) : Int), .string (bs x.ky), .string (bs x.va), .int .u64 ((x.ls.toNat : Nat) : Int), V, .int .i64 x.n.toInt] ∧ SlL (fun _ y cs => cs = KPtI.cells y) 3 h V x.ps) 6 (fun x => x.ky.length < 9223372036854775808 ∧ x.va.length < 9223372036854775808 ∧ x.ps.length < 9223372036854775808 ∧ ∀ p ∈ x.ps, p.ky.length < 9223372036854775808 ∧ p.va.length < 9223372036854775808) := by
  refine OpensL.struct (fs := [(5, 0), (9, 1), (9, 2), (28, 3), (33, 4), (3, 5)]) (L := (layP layU8 (layP layStr (layP layStr (layP layU64 (layP (laySl (fun _ y cs => cs = KPtI.cells y) 3) layI64)))))) (mk := fun (d, ky, va, ls, ps, n) => ⟨d, ky, va, ls, ps, n⟩) ?_ ?_ (by kernel_rfl) (by kernel_rfl) (OpensLF.cons (by decide) (by decide) opens_5 (OpensLF.cons (by decide) (by decide) opens_9 (OpensLF.cons (by decide) (by decide) opens_9 (OpensLF.cons (by decide) (by decide) opens_28 (OpensLF.cons (by decide) (by decide) opens_33 (OpensLF.one opens_3))))))
  · rintro h ⟨d, ky, va, ls, ps, n⟩ cs ⟨_, _, rfl, rfl, ⟨_, _, rfl, rfl, ⟨_, _, rfl, rfl, ⟨_, _, rfl, rfl, ⟨_, _, rfl, ⟨V, rfl, hS⟩, rfl⟩⟩⟩⟩⟩
    exact ⟨V, rfl, hS⟩
  · rintro ⟨d, ky, va, ls, ps, n⟩ ⟨k0, k1, k2, k3, k4, k5⟩
    exact ⟨k1, k2, k4⟩
theorem opens_35 : OpensL Try.prog 35 (α := Ac) layAct 6 (fun a => a.ky.length < 9223372036854775808 ∧ a.va.length < 9223372036854775808 ∧ a.ps.length < 9223372036854775808 ∧ ∀ p ∈ a.ps, p.ky.length < 9223372036854775808 ∧ p.va.length < 9223372036854775808) := OpensL.re actOf opens0_35 actOf_lay (fun _ _ k => k)
theorem opens_22 : OpensL Try.prog 22 (laySl layAct 6) 1 (fun l => l.length < 9223372036854775808 ∧ ∀ x ∈ l, (fun a => a.ky.length < 9223372036854775808 ∧ a.va.length < 9223372036854775808 ∧ a.ps.length < 9223372036854775808 ∧ ∀ p ∈ a.ps, p.ky.length < 9223372036854775808 ∧ p.va.length < 9223372036854775808) x) := OpensL.slice Try.underlying22 (by kernel_rfl) (by decide) opens_35
theorem SlL.acts {V : Value} {l : List Ac} (A : SlL layAct 6 h V l) : KAc.Sl h V l ∧ ∀ a ∈ l, KPtI.Sl h a.sv a.ps := by
  cases A with
  | nil => exact ⟨.nil, fun a q => by simp at q⟩
  | emp a c => exact ⟨.emp a c, fun a q => by simp at q⟩
  | row b c l cells hg hl he =>
    refine ⟨SlL.sl (K := KAc) (.row b c l cells hg hl fun j y hy => (he j y hy).1), fun a ha => ?_⟩
    obtain ⟨j, hj, rfl⟩ := List.mem_iff_getElem.1 ha
    exact (he j _ (List.getElem?_eq_getElem hj)).2
def doK (s : KS) (a : Ac) : KS × Int × List RwI :=
  if a.d.toNat = 0 then ((putK s a.ky a.va a.ls).1, ((putK s a.ky a.va a.ls).2 : Nat), [])
  else if a.d.toNat = 1 then ((delK s a.ky).1, ((delK s a.ky).2 : Nat), [])
  else if a.d.toNat = 2 then ((batK s a.ps).1, ((batK s a.ps).2 : Nat), [])
  else if a.d.toNat = 3 then ((endK s a.ls).1, ((endK s a.ls).2 : Nat), [])
  else if a.d.toNat = 4 then (s, if (getV s.F a.ky).2 = true then (((getV s.F a.ky).1.lea.toNat % 65536 : Nat) : Int) else -1, [getR s.F a.ky])
  else if a.d.toNat = 5 then (s, 0, (rangeF s.F a.ky a.va a.n.toInt).map toRw)
  else (s, 0, [])
structure KFit (s : KS) (n v z : Nat) : Prop where
  good : KGood s
  n : s.F.length ≤ n
  v : s.v ≤ v
  z : szF s.F ≤ z
theorem KFit.mono {s : KS} {n v z n2 v2 z2 : Nat} (h : KFit s n v z) (h1 : n ≤ n2) (h2 : v ≤ v2) (h3 : z ≤ z2) : KFit s n2 v2 z2 := ⟨h.good, Nat.le_trans h.n h1, Nat.le_trans h.v h2, Nat.le_trans h.z h3⟩
theorem put_fit {s : KS} {n v z : Nat} {key val : List UInt8} {ls : UInt64} (h : KFit s n v z) (hv : v + 1 < 18446744073709551616) : KFit (putK s key val ls).1 (n + 1) (v + 1) (z + (key.length + val.length)) := by
  have hg := put_grow (key := key) (val := val) (ls := ls) h.good.ok
  have h1 := h.n; have h2 := h.v; have h3 := h.z
  refine ⟨⟨put_ok h.good.ok, ?_, by omega⟩, by omega, by omega, ?_⟩
  · unfold putK
    split
    · exact h.good.vn
    · intro y hy
      rcases mem_put hy with rfl | q
      · have : (UInt64.ofNat (s.v + 1)).toNat = s.v + 1 := u64_back (by omega)
        exact ⟨by show 1 ≤ (UInt64.ofNat (s.v + 1)).toNat; omega, by show (UInt64.ofNat (s.v + 1)).toNat ≤ s.v + 1; omega⟩
      · have := h.good.vn y q; exact ⟨this.1, Nat.le_succ_of_le this.2⟩
  · unfold putK
    split
    · show szF s.F ≤ _; omega
    · have e := sz_cost (it := ⟨key, val, UInt64.ofNat (s.v + 1), ls⟩) h.good.ok.srt
      have c := (cost_hi (F := s.F) (key := key) (val := val)).2
      show szF (putF s.F _) ≤ _
      have e2 : ((szF (putF s.F ⟨key, val, UInt64.ofNat (s.v + 1), ls⟩) : Nat) : Int) = (szF s.F : Nat) + (costK s.F key val).2 := e
      omega
theorem del_fit {s : KS} {n v z : Nat} {key : List UInt8} (h : KFit s n v z) (hv : v + 1 < 18446744073709551616) : KFit (delK s key).1 n (v + 1) z := by
  have hg := del_grow (s := s) (key := key)
  have h1 := h.n; have h2 := h.v; have h3 := h.z
  refine ⟨⟨del_ok h.good.ok, ?_, by omega⟩, by omega, by omega, ?_⟩
  · unfold delK
    split
    · intro y hy
      have := h.good.vn y (List.mem_filter.1 hy).1; exact ⟨this.1, Nat.le_succ_of_le this.2⟩
    · exact h.good.vn
  · unfold delK
    split
    · rename_i c; have := sz_gone h.good.ok.srt c; show szF (delF s.F key) ≤ z; omega
    · exact h3
def sumP (l : List PtI) : Nat := (l.map fun p => p.ky.length + p.va.length).sum
theorem bat_fit {s0 : KS} : ∀ {ps : List PtI} {t : KS} {n v z : Nat}, KFit s0 n v z → KFit t n v z → v + ps.length < 18446744073709551616 → KFit (batG s0 t ps).1 (n + ps.length) (v + ps.length) (z + sumP ps) := by
  intro ps
  induction ps with
  | nil => intro t n v z h0 h _; exact h
  | cons p ps ih =>
    intro t n v z h0 h hv
    have es : sumP (p :: ps) = (p.ky.length + p.va.length) + sumP ps := by simp [sumP]
    rw [List.length_cons] at hv ⊢
    rw [es]
    unfold batG
    split
    · exact (ih (h0.mono (Nat.le_refl _) (Nat.le_succ v) (Nat.le_refl _)) (del_fit h (by omega)) (by omega)).mono (by omega) (by omega) (by omega)
    · split
      · exact h0.mono (by omega) (by omega) (by omega)
      · exact (ih (h0.mono (Nat.le_succ n) (Nat.le_succ v) (Nat.le_add_right z _)) (put_fit h (by omega)) (by omega)).mono (by omega) (by omega) (by omega)
theorem end_fit {s : KS} {n v z : Nat} {ls : UInt64} (h : KFit s n v z) (hv : v + n < 18446744073709551616) : KFit (endK s ls).1 n (v + n) z ∧ (endK s ls).2 ≤ n := by
  unfold endK
  split
  · exact ⟨h.mono (Nat.le_refl _) (by omega) (Nat.le_refl _), Nat.zero_le _⟩
  · have : ∀ (l : List It) (t : KS) (c : Nat), KFit t n (v + c) z → c + l.length ≤ n → KFit (l.foldl (endS ls) (t, c)).1 n (v + n) z ∧ (l.foldl (endS ls) (t, c)).2 ≤ n := by
      intro l
      induction l with
      | nil => intro t c h hc; exact ⟨h.mono (Nat.le_refl _) (by simp at hc; omega) (Nat.le_refl _), by simpa using hc⟩
      | cons x l ih =>
        intro t c h hc
        rw [List.length_cons] at hc
        rw [List.foldl_cons]
        unfold endS
        split
        · exact ih _ _ ((del_fit h (by omega)).mono (Nat.le_refl _) (by omega) (Nat.le_refl _)) (by omega)
        · exact ih _ _ h (by omega)
    exact this s.F s 0 h (by have := h.n; omega)
def sizeA (a : Ac) : Nat := a.ky.length + a.va.length + sumP a.ps
theorem do_fit {s : KS} {n v z : Nat} {a : Ac} (h : KFit s n v z) (hv : v + n + 10 < 18446744073709551616) (hp : a.ps.length ≤ 10) : KFit (doK s a).1 (n + 10) (v + n + 10) (z + sizeA a) := by
  unfold doK sizeA
  split
  · exact (put_fit h (by omega)).mono (by omega) (by omega) (by omega)
  · split
    · exact (del_fit h (by omega)).mono (by omega) (by omega) (by omega)
    · split
      · exact (bat_fit h h (by omega)).mono (by omega) (by omega) (by omega)
      · split
        · exact (end_fit h (by omega)).1.mono (by omega) (by omega) (by omega)
        · split
          · exact h.mono (by omega) (by omega) (by omega)
          · split
            · exact h.mono (by omega) (by omega) (by omega)
            · exact h.mono (by omega) (by omega) (by omega)
end Go.Proofs.Ytkfjlbdedjoojaa.Wt
namespace Go.Proofs.Ytkfjlbdedjoojaa.Wt
open Go Go.Proofs.Ytkfjlbdedjoojaa.Am Go.Proofs.Ytkfjlbdedjoojaa.IrAll
open Go.Proofs.Ytkfjlbdedjoojaa.Am.WS renaming op → C
open Go.Proofs.Ytkfjlbdedjoojaa.Am.WS renaming nil → D
open Go.Proofs.Ytkfjlbdedjoojaa.Am.WC renaming seq → F
open Go.Proofs.Ytkfjlbdedjoojaa.Am.WS renaming off → G
open List renaming length_singleton → J
set_option linter.unusedVariables false
set_option linter.unusedSimpArgs false
variable {h base h2 : H} {L : List Seg} {R : List Nat}
theorem awake16_ran (W : Mem h h [] []) : Cll tab0 10 [] h (fun v h2 => v = .bool true ∧ Mem h h2 [] []) := ⟨_, h, awake_run h, rfl, W⟩
theorem same_ran (W : Mem h h [] []) {V V2 : Value} {l m : List RwI} (A : KRwI.Sl h V l) (A2 : KRwI.Sl h V2 m) (hl : l.length ≤ 1000000) : Cll tab0 22 [V, V2] h (fun v h2 => v = .bool (decide (l = m)) ∧ Mem h h2 [] []) := by
  obtain ⟨Pl, nl, rfl⟩ := A.shape
  obtain ⟨Pm, nm, rfl⟩ := A2.shape
  refine Cll.code rfl rfl ?_
  refine WC.env [(0, _), (1, _)] rfl ?_
  refine F (WC.run (C rfl rfl (D [(0, _), (1, _)] rfl ?_)))
  refine F (F (WC.run (C rfl rfl (C rfl (op_lenVS A rfl) (C rfl rfl (C rfl (op_lenVS A2 rfl) ?_))))))
  refine WS.neqN (a := (l).length) (b := (m).length) rfl rfl rfl (fun e10 => ?_) (fun e10 => ?_)
  ·
   refine D [(0, _), (1, _), (10, _)] rfl ?_
   refine WC.condT rfl (F (WC.run (C rfl rfl (D [(4, _)] rfl ?_))))
   refine WC.ret (⟨[_], (res_tmp rfl res_nil), ?_⟩)
   refine ⟨?_, W.bare.take 0⟩
   rw [decide_eq_false]; rfl
   intro q; subst q
   first
   | omega
   | (rw [hy19] at hy23; cases hy23; exact e25 rfl)
  ·
   refine D [(0, _), (1, _), (10, _)] rfl ?_
   refine WC.condF rfl (WC.skip (F (F (WC.run (C rfl rfl (D [(0, _), (1, _), (5, _)] rfl ?_))))))
   refine WC.block ?_
   obtain ⟨L1, eL3, M2⟩ := Mem.name W.bare
   refine WC.loop (σ := Nat) (fun (i) => [(0, (.slice Pl l.length nl)), (1, (.slice Pm m.length nm)), (5, (.int .i64 ((i : Nat) : Int)))]) (fun (i) hh => Mem h hh (L1) [] ∧ i ≤ l.length ∧ ∀ k, k < i → l[k]? = m[k]?) (fun (i) => l.length - i) (0) rfl ⟨M2, ?_⟩ ?_
   · exact ⟨by omega, fun k q => by omega⟩
   ·rintro i h4 ⟨M5, ⟨hi, hE⟩⟩
    replace eL3 := eL3.symm; subst eL3
    refine WC.env [(0, _), (1, _), (5, _)] rfl ?_
    refine F (F (WC.run (C rfl rfl (C rfl rfl (C rfl (op_lenVS A rfl) ?_)))))
    refine WS.lssN (a := i) (b := (l).length) rfl rfl rfl (fun e14 => ?_) (fun e14 => ?_)
    ·
     refine D [(0, _), (1, _), (5, _), (14, _)] rfl ?_
     refine WC.condT rfl (WC.skip (F (WC.block (F (WC.draw M5 [] rfl ?_)))))
     intro rb6 h7 M8
     refine C rfl rfl (C rfl rfl ?_)
     obtain ⟨y19, hy19⟩ : ∃ y, (l)[i]? = some y := ⟨_, List.getElem?_eq_getElem (show i < (l).length by first | omega | (simp only [List.length_drop, List.length_take, List.length_append, List.length_cons, List.length_nil, J]; omega) | (simp only [List.length_drop, List.length_take, List.length_append, List.length_cons, List.length_nil, J] at *; omega))⟩
     refine WS.iaVS A i hy19 rfl rfl rfl rfl ?_
     intro b19_ o19_ ha19
     refine C rfl (op_ldAt rfl (ha19.mono M8.sub) rfl) (C rfl rfl (C rfl rfl ?_))
     obtain ⟨y23, hy23⟩ : ∃ y, (m)[i]? = some y := ⟨_, List.getElem?_eq_getElem (show i < (m).length by first | omega | (simp only [List.length_drop, List.length_take, List.length_append, List.length_cons, List.length_nil, J]; omega) | (simp only [List.length_drop, List.length_take, List.length_append, List.length_cons, List.length_nil, J] at *; omega))⟩
     refine WS.iaVS A2 i hy23 rfl rfl rfl rfl ?_
     intro b23_ o23_ ha23
     refine C rfl (op_ldAt rfl (ha23.mono M8.sub) rfl) ?_
     refine WS.eqqDn (p := y19 = y23) rfl rfl rfl (RwI_eqV _ _) (fun e25 => ?_) (fun e25 => ?_)
     ·
      refine D [(0, _), (1, _), (5, _), (25, _)] rfl ?_
      refine WC.condT rfl (F (WC.run (C rfl rfl (D [(4, _)] rfl ?_))))
      refine WC.ret (⟨[_], (res_tmp rfl res_nil), ?_⟩)
      refine ⟨?_, M8.bare.bare.take 0⟩
      rw [decide_eq_false]; rfl
      intro q; subst q
      first
      | omega
      | (rw [hy19] at hy23; cases hy23; exact e25 rfl)
     ·
      refine D [(0, _), (1, _), (5, _), (25, _)] rfl ?_
      refine WC.condF rfl (WC.skip (WC.run (C rfl rfl (WS.opV (.int .i64 (((i + 1) : Nat) : Int)) rfl rfl (add_i64 (a := i) (b := 1) (by omega)) (C rfl rfl (D [(0, _), (1, _), (5, _)] rfl ?_))))))
      refine ⟨i + 1, rfl, ⟨(M8.bare.bare.take 0), ?_⟩, ?_⟩
      · exact ⟨by omega, fun k q => if c : k = i then (by subst c; rw [hy19, hy23, e25]) else hE k (by omega)⟩
      · simp only []; omega
    ·
     refine D [(0, _), (1, _), (5, _), (14, _)] rfl ?_
     refine WC.condF rfl (WC.exit ?_)
     refine F (WC.run (C rfl rfl (D [(4, _)] rfl ?_)))
     refine WC.ret (⟨[_], (res_tmp rfl res_nil), ?_⟩)
     exact ⟨by rw [decide_eq_true (List.ext_getElem? fun k => by by_cases c : k < i; (exact hE k c); (rw [List.getElem?_eq_none (by omega), List.getElem?_eq_none (by omega)]))]; rfl, M5.bare.take 0⟩
def sumA (l : List Ac) : Nat := (l.map sizeA).sum
theorem sumA_snoc {l : List Ac} {i : Nat} {y : Ac} (hy : l[i]? = some y) : sumA (l.take (i + 1)) = sumA (l.take i) + sizeA y := by
  unfold sumA; rw [take_map hy]; simp
theorem sumP_snoc {l : List PtI} {i : Nat} {y : PtI} (hy : l[i]? = some y) : sumP (l.take (i + 1)) = sumP (l.take i) + (y.ky.length + y.va.length) := by
  unfold sumP; rw [take_map hy]; simp
def OkA (a : Ac) : Prop := a.ky.length ≤ 12000 ∧ a.va.length ≤ 12000 ∧ a.ps.length ≤ 10 ∧ ∀ p ∈ a.ps, p.ky.length ≤ 12000 ∧ p.va.length ≤ 12000
theorem mem_snoc {α : Type} {l : List α} {i : Nat} {y : α} {Q : α → Prop} (hy : l[i]? = some y) (h : ∀ x ∈ l.take i, Q x) (hq : Q y) : ∀ x ∈ l.take (i + 1), Q x := by
  intro x hx
  rw [List.take_add_one, hy] at hx
  rcases List.mem_append.1 hx with q | q
  · exact h x q
  · simp at q; subst q; exact hq
set_option maxRecDepth 8000 in
theorem Great16_ran (W : Mem h h [] []) {V : Value} {l : List Ac} (A : KAc.Sl h V l) (hQ : ∀ a ∈ l, KPtI.Sl h a.sv a.ps) (hb : l.length < 9223372036854775808) : Cll tab0 9 [V] h (fun v h2 => ∃ g, v = .bool g ∧ (g = false → l.length ≤ 80 ∧ (∀ a ∈ l, OkA a) ∧ sumA l ≤ 12000) ∧ Mem h h2 [] []) := by
  obtain ⟨Pl, nl, rfl⟩ := A.shape
  refine Cll.code rfl rfl ?_
  refine WC.env [(0, _)] rfl ?_
  refine F (WC.run (C rfl rfl (D [(0, _)] rfl ?_)))
  refine F (F (WC.run (C rfl rfl (C rfl (op_lenVS A rfl) ?_))))
  refine WS.gtrN (a := (l).length) (b := 80) rfl rfl rfl (fun e8 => ?_) (fun e8 => ?_)
  ·
   refine D [(0, _), (8, _)] rfl ?_
   refine WC.condT rfl (F (WC.run (C rfl rfl (D [(2, _)] rfl ?_))))
   refine WC.ret (⟨[_], (res_tmp rfl res_nil), ?_⟩)
   exact ⟨true, rfl, fun q => (nomatch q), W.bare.take 0⟩
  ·
   refine D [(0, _), (8, _)] rfl ?_
   refine WC.condF rfl (WC.skip (F (WC.run (C rfl rfl (D [(0, _), (3, _)] rfl ?_)))))
   refine F (F (WC.run (C rfl rfl (D [(0, _), (3, _), (4, _)] rfl ?_))))
   refine WC.block ?_
   obtain ⟨L1, eL3, M2⟩ := Mem.name W.bare
   refine WC.loop (σ := Nat × Nat) (fun ((n, i)) => [(0, (.slice Pl l.length nl)), (3, (.int .i64 ((n : Nat) : Int))), (4, (.int .i64 ((i : Nat) : Int)))]) (fun ((n, i)) hh => Mem h hh (L1) [] ∧ n = sumA (l.take i) ∧ i ≤ l.length ∧ n ≤ 300000 * i ∧ ∀ a ∈ l.take i, OkA a) (fun ((n, i)) => l.length - i) (0, 0) rfl ⟨M2, ?_⟩ ?_
   · exact ⟨rfl, by omega, by omega, by simp⟩
   ·rintro ⟨n, i⟩ h4 ⟨M5, ⟨hn, hi, hnb, hO⟩⟩
    replace eL3 := eL3.symm; subst eL3
    refine WC.env [(0, _), (3, _), (4, _)] rfl ?_
    refine F (F (WC.run (C rfl rfl (C rfl rfl (C rfl (op_lenVS A rfl) ?_)))))
    refine WS.lssN (a := i) (b := (l).length) rfl rfl rfl (fun e12 => ?_) (fun e12 => ?_)
    ·
     refine D [(0, _), (3, _), (4, _), (12, _)] rfl ?_
     refine WC.condT rfl (WC.skip (F (WC.block (F (F (WC.run (C rfl rfl (C rfl rfl ?_))))))))
     obtain ⟨y17, hy17⟩ : ∃ y, (l)[i]? = some y := ⟨_, List.getElem?_eq_getElem (show i < (l).length by first | omega | (simp only [List.length_drop, List.length_take, List.length_append, List.length_cons, List.length_nil, J]; omega) | (simp only [List.length_drop, List.length_take, List.length_append, List.length_cons, List.length_nil, J] at *; omega))⟩
     refine WS.iaVS A i hy17 rfl rfl rfl rfl ?_
     intro b17_ o17_ ha17
     refine C rfl rfl (C rfl (op_ldH rfl (At.ld (k := 1) (ha17.mono M5.sub) rfl)) (C rfl (op_lenS (l := y17.ky) rfl) ?_))
     refine WS.gtrN (a := (y17.ky).length) (b := 12000) rfl rfl rfl (fun e21 => ?_) (fun e21 => ?_)
     ·
      refine C rfl rfl (G rfl (G rfl (G rfl (G rfl (G rfl (G rfl (G rfl (C rfl rfl (C rfl rfl ?_)))))))))
      refine G rfl (G rfl (G rfl (G rfl (G rfl (G rfl (G rfl (C rfl rfl (D [(0, _), (3, _), (4, _), (39, _)] rfl ?_))))))))
      refine WC.condT rfl (F (WC.run (C rfl rfl (D [(2, _)] rfl ?_))))
      refine WC.ret (⟨[_], (res_tmp rfl res_nil), ?_⟩)
      exact ⟨true, rfl, fun q => (nomatch q), M5.bare.take 0⟩
     ·
      refine C rfl rfl (C rfl rfl (C rfl rfl ?_))
      refine WS.iaVS A i hy17 rfl rfl rfl rfl ?_
      intro b25_ o25_ ha25
      refine C rfl rfl (C rfl (op_ldH rfl (At.ld (k := 2) (ha25.mono M5.sub) rfl)) (C rfl (op_lenS (l := y17.va) rfl) ?_))
      refine WS.gtrN (a := (y17.va).length) (b := 12000) rfl rfl rfl (fun e29 => ?_) (fun e29 => ?_)
      ·
       refine C rfl rfl (C rfl rfl (G rfl (G rfl (G rfl (G rfl (G rfl (G rfl (G rfl (C rfl rfl ?_)))))))))
       refine D [(0, _), (3, _), (4, _), (39, _)] rfl ?_
       refine WC.condT rfl (F (WC.run (C rfl rfl (D [(2, _)] rfl ?_))))
       refine WC.ret (⟨[_], (res_tmp rfl res_nil), ?_⟩)
       exact ⟨true, rfl, fun q => (nomatch q), M5.bare.take 0⟩
      ·
       refine C rfl rfl (C rfl rfl (C rfl rfl (C rfl rfl ?_)))
       refine WS.iaVS A i hy17 rfl rfl rfl rfl ?_
       intro b34_ o34_ ha34
       refine C rfl rfl (C rfl (op_ldH rfl (At.ld (k := 4) (ha34.mono M5.sub) rfl)) (C rfl (op_lenVS (hQ _ (List.mem_of_getElem? hy17)) rfl) ?_))
       refine WS.gtrN (a := (y17.ps).length) (b := 10) rfl rfl rfl (fun e38 => ?_) (fun e38 => ?_)
       ·
        refine C rfl rfl (D [(0, _), (3, _), (4, _), (39, _)] rfl ?_)
        refine WC.condT rfl (F (WC.run (C rfl rfl (D [(2, _)] rfl ?_))))
        refine WC.ret (⟨[_], (res_tmp rfl res_nil), ?_⟩)
        exact ⟨true, rfl, fun q => (nomatch q), M5.bare.take 0⟩
       ·
        refine C rfl rfl (D [(0, _), (3, _), (4, _), (39, _)] rfl ?_)
        refine WC.condF rfl (WC.skip (F (WC.draw M5 [] rfl ?_)))
        intro rb6 h7 M8
        refine C rfl rfl (C rfl rfl (C rfl rfl ?_))
        refine WS.iaVS A i hy17 rfl rfl rfl rfl ?_
        intro b43_ o43_ ha43
        refine C rfl rfl (C rfl (op_ldH rfl (At.ld (k := 1) (ha43.mono M8.sub) rfl)) (C rfl (op_lenS (l := y17.ky) rfl) (WS.opV (.int .i64 (((n + (y17.ky).length) : Nat) : Int)) rfl rfl (add_i64 (a := n) (b := (y17.ky).length) (by omega)) (C rfl rfl (C rfl rfl ?_)))))
        refine WS.iaVS A i hy17 rfl rfl rfl rfl ?_
        intro b50_ o50_ ha50
        refine C rfl rfl (C rfl (op_ldH rfl (At.ld (k := 2) (ha50.mono M8.sub) rfl)) (C rfl (op_lenS (l := y17.va) rfl) (WS.opV (.int .i64 ((((n + (y17.ky).length) + (y17.va).length) : Nat) : Int)) rfl rfl (add_i64 (a := (n + (y17.ky).length)) (b := (y17.va).length) (by omega)) (C rfl rfl (D [(0, _), (3, _), (4, _)] rfl ?_)))))
        refine F (WC.run (C rfl rfl (D [(0, _), (3, _), (4, _), (5, _)] rfl ?_)))
        refine WC.block ?_
        obtain ⟨L9, eL11, M10⟩ := Mem.name M8.bare.bare
        refine WC.loop (σ := Nat × Nat) (fun ((m, k)) => [(0, (.slice Pl l.length nl)), (3, (.int .i64 ((m : Nat) : Int))), (4, (.int .i64 ((i : Nat) : Int))), (5, (.int .i64 ((k : Nat) : Int)))]) (fun ((m, k)) hh => Mem h hh (L9) [] ∧ m = n + (y17.ky.length + y17.va.length) + sumP (y17.ps.take k) ∧ k ≤ y17.ps.length ∧ sumP (y17.ps.take k) ≤ 24000 * k ∧ ∀ p ∈ y17.ps.take k, p.ky.length ≤ 12000 ∧ p.va.length ≤ 12000) (fun ((m, k)) => y17.ps.length - k) (((n + (y17.ky).length) + (y17.va).length), 0) rfl ⟨M10, ?_⟩ ?_
        · exact ⟨by simp [sumP]; omega, by omega, by simp [sumP], by simp⟩
        ·rintro ⟨m, k⟩ h12 ⟨M13, ⟨hm, hk, hmb, hP⟩⟩
         replace eL11 := eL11.symm; subst eL11
         refine WC.env [(0, _), (3, _), (4, _), (5, _)] rfl ?_
         refine F (F (WC.run (C rfl rfl (C rfl rfl (C rfl rfl ?_)))))
         refine WS.iaVS A i hy17 rfl rfl rfl rfl ?_
         intro b58_ o58_ ha58
         refine C rfl rfl (C rfl (op_ldH rfl (At.ld (k := 4) (ha58.mono M13.sub) rfl)) (C rfl (op_lenVS (hQ _ (List.mem_of_getElem? hy17)) rfl) ?_))
         refine WS.lssN (a := k) (b := (y17.ps).length) rfl rfl rfl (fun e62 => ?_) (fun e62 => ?_)
         ·
          refine D [(0, _), (3, _), (4, _), (5, _), (62, _)] rfl ?_
          refine WC.condT rfl (WC.skip (F (WC.block (F (F (WC.run (C rfl rfl (C rfl rfl ?_))))))))
          refine WS.iaVS A i hy17 rfl rfl rfl rfl ?_
          intro b67_ o67_ ha67
          refine C rfl rfl (C rfl (op_ldH rfl (At.ld (k := 4) (ha67.mono M13.sub) rfl)) (C rfl rfl ?_))
          obtain ⟨y71, hy71⟩ : ∃ y, (y17.ps)[k]? = some y := ⟨_, List.getElem?_eq_getElem (show k < (y17.ps).length by first | omega | (simp only [List.length_drop, List.length_take, List.length_append, List.length_cons, List.length_nil, J]; omega) | (simp only [List.length_drop, List.length_take, List.length_append, List.length_cons, List.length_nil, J] at *; omega))⟩
          refine WS.iaVS (hQ _ (List.mem_of_getElem? hy17)) k hy71 rfl rfl rfl rfl ?_
          intro b71_ o71_ ha71
          have hsn := sumP_snoc hy71
          refine C rfl rfl (C rfl (op_ldH rfl (At.ld (k := 1) (ha71.mono M13.sub) rfl)) (C rfl (op_lenS (l := y71.ky) rfl) ?_))
          refine WS.gtrN (a := (y71.ky).length) (b := 12000) rfl rfl rfl (fun e75 => ?_) (fun e75 => ?_)
          ·
           refine C rfl rfl (G rfl (G rfl (G rfl (G rfl (G rfl (G rfl (G rfl (G rfl (G rfl ?_)))))))))
           refine G rfl (G rfl (C rfl rfl (D [(0, _), (3, _), (4, _), (5, _), (88, _)] rfl ?_)))
           refine WC.condT rfl (F (WC.run (C rfl rfl (D [(2, _)] rfl ?_))))
           refine WC.ret (⟨[_], (res_tmp rfl res_nil), ?_⟩)
           exact ⟨true, rfl, fun q => (nomatch q), M13.bare.take 0⟩
          ·
           refine C rfl rfl (C rfl rfl (C rfl rfl ?_))
           refine WS.iaVS A i hy17 rfl rfl rfl rfl ?_
           intro b79_ o79_ ha79
           refine C rfl rfl (C rfl (op_ldH rfl (At.ld (k := 4) (ha79.mono M13.sub) rfl)) (C rfl rfl ?_))
           refine WS.iaVS (hQ _ (List.mem_of_getElem? hy17)) k hy71 rfl rfl rfl rfl ?_
           intro b83_ o83_ ha83
           refine C rfl rfl (C rfl (op_ldH rfl (At.ld (k := 2) (ha83.mono M13.sub) rfl)) (C rfl (op_lenS (l := y71.va) rfl) ?_))
           refine WS.gtrN (a := (y71.va).length) (b := 12000) rfl rfl rfl (fun e87 => ?_) (fun e87 => ?_)
           ·
            refine C rfl rfl (D [(0, _), (3, _), (4, _), (5, _), (88, _)] rfl ?_)
            refine WC.condT rfl (F (WC.run (C rfl rfl (D [(2, _)] rfl ?_))))
            refine WC.ret (⟨[_], (res_tmp rfl res_nil), ?_⟩)
            exact ⟨true, rfl, fun q => (nomatch q), M13.bare.take 0⟩
           ·
            refine C rfl rfl (D [(0, _), (3, _), (4, _), (5, _), (88, _)] rfl ?_)
            refine WC.condF rfl (WC.skip (WC.draw M13 [] rfl ?_))
            intro rb14 h15 M16
            refine C rfl rfl (C rfl rfl (C rfl rfl ?_))
            refine WS.iaVS A i hy17 rfl rfl rfl rfl ?_
            intro b92_ o92_ ha92
            refine C rfl rfl (C rfl (op_ldH rfl (At.ld (k := 4) (ha92.mono M16.sub) rfl)) (C rfl rfl ?_))
            refine WS.iaVS (hQ _ (List.mem_of_getElem? hy17)) k hy71 rfl rfl rfl rfl ?_
            intro b96_ o96_ ha96
            refine C rfl rfl (C rfl (op_ldH rfl (At.ld (k := 1) (ha96.mono M16.sub) rfl)) (C rfl (op_lenS (l := y71.ky) rfl) (WS.opV (.int .i64 (((m + (y71.ky).length) : Nat) : Int)) rfl rfl (add_i64 (a := m) (b := (y71.ky).length) (by omega)) (C rfl rfl (C rfl rfl ?_)))))
            refine WS.iaVS A i hy17 rfl rfl rfl rfl ?_
            intro b103_ o103_ ha103
            refine C rfl rfl (C rfl (op_ldH rfl (At.ld (k := 4) (ha103.mono M16.sub) rfl)) (C rfl rfl ?_))
            refine WS.iaVS (hQ _ (List.mem_of_getElem? hy17)) k hy71 rfl rfl rfl rfl ?_
            intro b107_ o107_ ha107
            refine C rfl rfl (C rfl (op_ldH rfl (At.ld (k := 2) (ha107.mono M16.sub) rfl)) (C rfl (op_lenS (l := y71.va) rfl) (WS.opV (.int .i64 ((((m + (y71.ky).length) + (y71.va).length) : Nat) : Int)) rfl rfl (add_i64 (a := (m + (y71.ky).length)) (b := (y71.va).length) (by omega)) (C rfl rfl (D [(0, _), (3, _), (4, _), (5, _)] rfl ?_)))))
            refine WC.run (C rfl rfl (WS.opV (.int .i64 (((k + 1) : Nat) : Int)) rfl rfl (add_i64 (a := k) (b := 1) (by omega)) (C rfl rfl (D [(0, _), (3, _), (4, _), (5, _)] rfl ?_))))
            refine ⟨(((m + (y71.ky).length) + (y71.va).length), k + 1), rfl, ⟨(M16.bare.bare.take 0), ?_⟩, ?_⟩
            · exact ⟨by omega, by omega, by omega, mem_snoc hy71 hP ⟨by omega, by omega⟩⟩
            · simp only []; omega
         ·
          refine D [(0, _), (3, _), (4, _), (5, _), (62, _)] rfl ?_
          refine WC.condF rfl (WC.exit ?_)
          refine WC.run (C rfl rfl (WS.opV (.int .i64 (((i + 1) : Nat) : Int)) rfl rfl (add_i64 (a := i) (b := 1) (by omega)) (C rfl rfl (D [(0, _), (3, _), (4, _)] rfl ?_))))
          refine ⟨(m, i + 1), rfl, ⟨(M13.bare.take 0), ?_⟩, ?_⟩
          · have htk : y17.ps.take k = y17.ps := List.take_of_length_le (by omega); rw [htk] at hm hmb hP; exact ⟨by rw [sumA_snoc hy17]; unfold sizeA; omega, by omega, by omega, mem_snoc hy17 hO ⟨by omega, by omega, by omega, hP⟩⟩
          · simp only []; omega
    ·
     refine D [(0, _), (3, _), (4, _), (12, _)] rfl ?_
     refine WC.condF rfl (WC.exit ?_)
     refine F (WC.run (C rfl rfl ?_))
     refine WS.gtrN (a := n) (b := 12000) rfl rfl rfl (fun e113 => ?_) (fun e113 => ?_)
     ·
      refine C rfl rfl (D [(2, _)] rfl ?_)
      refine WC.ret (⟨[_], (res_tmp rfl res_nil), ?_⟩)
      exact ⟨true, rfl, fun q => (nomatch q), M5.bare.take 0⟩
     ·
      refine C rfl rfl (D [(2, _)] rfl ?_)
      refine WC.ret (⟨[_], (res_tmp rfl res_nil), ?_⟩)
      have htk : l.take i = l := List.take_of_length_le (by omega)
      rw [htk] at hn hO
      exact ⟨false, rfl, fun _ => ⟨by omega, hO, by omega⟩, M5.bare.take 0⟩
end Go.Proofs.Ytkfjlbdedjoojaa.Wt
namespace Go.Proofs.Ytkfjlbdedjoojaa.Wt
open Go Go.Proofs.Ytkfjlbdedjoojaa.Am Go.Proofs.Ytkfjlbdedjoojaa.IrAll
open Go.Proofs.Ytkfjlbdedjoojaa.Am.WS renaming op → C
open Go.Proofs.Ytkfjlbdedjoojaa.Am.WS renaming nil → D
open Go.Proofs.Ytkfjlbdedjoojaa.Am.WC renaming seq → J
set_option linter.unusedVariables false
set_option linter.unusedSimpArgs false
variable {h base h2 : H} {L : List Seg} {R : List Nat}
theorem and65535 {n : Nat} (h : n < 18446744073709551616) : Value.int .u64 (IntKind.u64.wrap ((BitVec.ofInt IntKind.u64.bits (n : Int) &&& BitVec.ofInt IntKind.u64.bits 65535).toNat : Nat)) = .int .u64 ((n % 65536 : Nat) : Int) := by
  have := bv64 n 65535 h (by omega)
  rw [Nat.and_two_pow_sub_one_eq_mod n 16] at this; rw [← this]; rfl
theorem bat_small (s : KS) (ps : List PtI) : (batK s ps).2 < 256 := by
  have : ∀ (ps : List PtI) (t : KS), (batG s t ps).2 < 256 := by
    intro ps
    induction ps with
    | nil => intro t; exact (by decide : 0 < 256)
    | cons p ps ih =>
      intro t; unfold batG
      split
      · exact ih _
      · split
        · exact put_small _ _ _ _
        · exact ih _
  exact this ps s
theorem del_small (s : KS) (key : List UInt8) : (delK s key).2 < 256 := by
  unfold delK; split
  · exact (by decide : 0 < 256)
  · exact (by decide : 1 < 256)
theorem Get_ro (W : Mem h h [] []) {p : Nat} {LL : List (List It)} {S : Seg} {key : List UInt8} (G : PgSt p LL S) (hS : ∀ q ∈ S, h.get q.1 = some q.2) (hI : Inv LL) (hn : LL.flatten.length ≤ 900000) : Cll tab0 58 [.pointer (some ⟨p, 0, none⟩), .string (bs key)] h (fun v h2 => v = .tuple #[.agg (Vl.cells (getV LL.flatten key).1).toArray, .bool (getV LL.flatten key).2] ∧ Mem h h2 [] []) := by
  obtain ⟨gs, rfl, hok, A⟩ := G.read hS
  exact Get_ran W A hI (gs_le hI hn)
theorem KvSt.facts {s : Nat} {st : KS} {S : Seg} (G : KvSt s st S) (hS : ∀ q ∈ S, h.get q.1 = some q.2) : ∃ p Sp LL, PgSt p LL Sp ∧ Inv LL ∧ LL.flatten = st.F ∧ (∀ q ∈ Sp, h.get q.1 = some q.2) ∧ h.get s = some ⟨[.pointer (some ⟨p, 0, none⟩), .int .i64 (st.K : Int), .int .i64 (st.M : Int), .int .i64 ((szF st.F : Nat) : Int), .int .u64 (st.v : Int)], 0, false⟩ := by
  obtain ⟨p, Sp, LL, G, hI, hF, rfl⟩ := G
  exact ⟨p, Sp, LL, G, hI, hF, fun q hq => hS q (List.mem_cons_of_mem _ hq), hS _ (List.mem_cons_self ..)⟩
theorem Lease_ro (W : Mem h h [] []) {s : Nat} {st : KS} {S : Seg} {key : List UInt8} (G : KvSt s st S) (hS : ∀ q ∈ S, h.get q.1 = some q.2) (hn : st.F.length ≤ 800000) : Cll tab0 32 [.pointer (some ⟨s, 0, none⟩), .string (bs key)] h (fun v h2 => v = .int .u64 ((getV st.F key).1.lea.toNat : Int) ∧ Mem h h2 [] []) := by
  obtain ⟨p, Sp, LL, G, hI, hF, hSp, hb⟩ := G.facts hS
  rw [← hF] at hn ⊢
  refine Cll.code rfl rfl ?_
  refine WC.env [(0, _), (1, _)] rfl ?_
  refine J (WC.run (C rfl rfl (D [(0, _), (1, _)] rfl ?_)))
  refine J (J (WC.run (C rfl rfl (WS.opV (.bool false) rfl rfl rfl (D [(0, _), (1, _), (8, _)] rfl ?_)))))
  refine WC.condF rfl (WC.skip (J (WC.run (C rfl rfl (C rfl rfl (C rfl rfl (C rfl (op_ld (W.sub _ _ hb) rfl rfl) (C rfl rfl ?_))))))))
  refine WS.call rfl rfl rfl (Get_ro W.here (key := key) G (fun q hq => W.sub _ _ (hSp q hq)) hI (Nat.le_trans hn (by omega))) ?_
  rintro _ h1 ⟨rfl, N2⟩
  have M3 := W.trans N2
  refine C rfl rfl (C rfl rfl (C rfl rfl ?_))
  refine WS.new M3 rfl ?_
  intro p4 h5 M6
  refine WS.st1 (M6.focus 0 rfl) [_, _, _] [_, _, _] rfl rfl rfl rfl rfl (Nat.le_of_ble_eq_true rfl) (Nat.le_of_ble_eq_true rfl) rfl rfl ?_
  intro h7 M8
  replace M8 : Mem _ _ ([(p4, _)] :: []) _ := M8
  refine C rfl rfl (D [(5, _)] rfl ?_)
  refine J (WC.run (C rfl rfl (C rfl (op_ld (M8.at 0 rfl) rfl rfl) (C rfl rfl (D [(4, _)] rfl ?_)))))
  refine WC.ret (⟨[_], (res_tmp rfl res_nil), ?_⟩)
  exact ⟨rfl, M8.bare.take 0⟩
theorem Version_ro (W : Mem h h [] []) {s : Nat} {st : KS} {S : Seg} (G : KvSt s st S) (hS : ∀ q ∈ S, h.get q.1 = some q.2) : Cll tab0 13 [.pointer (some ⟨s, 0, none⟩)] h (fun v h2 => v = .int .u64 ((st.v : Nat) : Int) ∧ Mem h h2 [] []) := by
  obtain ⟨p, Sp, LL, G, hI, hF, hSp, hb⟩ := G.facts hS
  refine Cll.code rfl rfl ?_
  refine WC.env [(0, _)] rfl ?_
  refine J (WC.run (C rfl rfl (D [(0, _)] rfl ?_)))
  refine J (J (WC.run (C rfl rfl (WS.opV (.bool false) rfl rfl rfl (D [(0, _), (4, _)] rfl ?_)))))
  refine WC.condF rfl (WC.skip (J (WC.run (C rfl rfl (C rfl rfl (C rfl rfl (C rfl (op_ld (W.sub _ _ hb) rfl rfl) (C rfl rfl (D [(2, _)] rfl ?_)))))))))
  refine WC.ret (⟨[_], (res_tmp rfl res_nil), ?_⟩)
  exact ⟨rfl, W.bare.take 0⟩
theorem wrK_len {s : KS} (h : KFit s 1700 1000000 30000) : (wrK s).length ≤ 700000 := by
  have h1 := h.n; have h2 := h.v; have h3 := h.z
  have h4 := h.good.ok.K; have h5 := h.good.ok.M
  have a := head_len (a := s.K) (b := s.M) (c := s.v) (d := s.F.length) (by omega) (by omega) (by omega) (by omega)
  have b := rows_len (F := s.F) (by omega)
  unfold wrK; rw [List.length_append]; omega
set_option maxRecDepth 8000 in
set_option maxHeartbeats 2000000 in
theorem does_st {s : Nat} {st : KS} {S : Seg} {a : Ac} (G : KvSt s st S) (M : Mem base h (S :: L) []) (hf : KFit st 1700 1000000 30000) (hA : OkA a) (hQa : KPtI.Sl base a.sv a.ps) : Cll tab0 14 [.pointer (some ⟨s, 0, none⟩), .agg (Ac.cells a).toArray] h (fun u h2 => ∃ p S2 V S3, u = .tuple #[.pointer (some ⟨p, 0, none⟩), .int .i64 (doK st a).2.1, V] ∧ (∀ hh : H, (∀ q ∈ S3, hh.get q.1 = some q.2) → KRwI.Sl hh V (doK st a).2.2) ∧ KvSt p (doK st a).1 S2 ∧ Mem base h2 (S3 :: S2 :: L) []) := by
  have hok := hf.good.ok
  have hN : st.F.length ≤ 800000 := Nat.le_trans hf.n (by omega)
  have hV : st.v < 18446744073709551615 := Nat.lt_of_le_of_lt hf.v (by omega)
  have hl1 : a.ky.length ≤ 1000000 := Nat.le_trans hA.1 (by omega)
  have hl2 : a.va.length ≤ 1000000 := Nat.le_trans hA.2.1 (by omega)
  have hps := put_small st a.ky a.va a.ls; have hbs := bat_small st a.ps; have hds := del_small st a.ky
  have hz := hf.z; have hn8 := hf.n; have hvm := hf.v; have hp10 := hA.2.2.1
  refine Cll.code rfl rfl ?_
  refine WC.env [(0, _), (1, _)] rfl ?_
  refine J (WC.run (WS.box M [_, _, _, _, _, _] rfl rfl rfl rfl ?_))
  intro p1 h2 M3
  refine C rfl rfl (C rfl rfl (C rfl rfl (D [(0, _), (3, _)] rfl ?_)))
  refine J (J (WC.run (C rfl rfl (C rfl (op_ld (M3.at 0 rfl) rfl rfl) (D [(0, _), (3, _), (12, _)] rfl ?_)))))
  refine WC.block (J (WC.run (WS.eqlN (a := (a.d).toNat) (b := 0) rfl rfl rfl (fun e14 => ?_) (fun e14 => ?_))))
  ·
   refine C rfl rfl (D [(0, _), (3, _), (12, _), (13, _)] rfl ?_)
   refine WC.condT rfl (J (WC.run (C rfl rfl (C rfl rfl (C rfl rfl (C rfl (op_ld (M3.at 0 rfl) rfl rfl) (C rfl rfl (C rfl (op_ld (M3.at 0 rfl) rfl rfl) (C rfl rfl (C rfl (op_ld (M3.at 0 rfl) rfl rfl) ?_))))))))))
   refine WS.call rfl rfl rfl (kPut_st (key := a.ky) (val := a.va) (ls := a.ls) G (M3.bare.focus 1 rfl) hok hN hl1 hl2 hV) ?_
   rintro _ h4 ⟨rfl, S6, G7, M5⟩
   replace M5 : Mem _ _ (S6 :: [(p1, _)] :: L) _ := M5
   refine WS.opV (.int .i64 (((putK st a.ky a.va a.ls).2 : Nat) : Int)) rfl rfl (cv_i64 (n := (putK st a.ky a.va a.ls).2) (by have := put_small st a.ky a.va a.ls; omega)) (C rfl rfl (C rfl rfl (C rfl rfl (D [(4, _), (5, _), (6, _)] rfl ?_))))
   refine WC.ret (⟨[_, _, _], (res_tmp rfl (res_tmp rfl (res_tmp rfl res_nil))), ?_⟩)
   have e : doK st a = ((putK st a.ky a.va a.ls).1, (((putK st a.ky a.va a.ls).2 : Nat) : Int), []) := by unfold doK; first | exact if_pos e14 | (rw [if_neg e14]; first | exact if_pos e26 | (rw [if_neg e26]; first | exact if_pos e34 | (rw [if_neg e34]; first | exact if_pos e42 | (rw [if_neg e42]; first | (rw [if_pos e49]; done) | (rw [if_pos e49]; first | (rw [if_pos hb1]; done) | (rw [hb1]; rfl)) | (rw [if_neg e49]; first | exact if_pos e72 | exact if_neg e72)))))
   rw [e]
   exact ⟨_, _, _, [], rfl, (fun hh q => .nil), G7, ((M5.focus 1 rfl).drop).nils⟩
  ·
   refine C rfl rfl (D [(0, _), (3, _), (12, _), (13, _)] rfl ?_)
   refine WC.condF rfl (J (WC.run (WS.eqlN (a := (a.d).toNat) (b := 1) rfl rfl rfl (fun e26 => ?_) (fun e26 => ?_))))
   ·
    refine C rfl rfl (D [(0, _), (3, _), (12, _), (25, _)] rfl ?_)
    refine WC.condT rfl (J (WC.run (C rfl rfl (C rfl rfl (C rfl rfl (C rfl (op_ld (M3.at 0 rfl) rfl rfl) ?_))))))
    refine WS.call rfl rfl rfl (kDelete_st (key := a.ky) G (M3.bare.focus 1 rfl) hok hN hl1 hV) ?_
    rintro _ h8 ⟨rfl, S10, G11, M9⟩
    replace M9 : Mem _ _ (S10 :: [(p1, _)] :: L) _ := M9
    refine WS.opV (.int .i64 (((delK st a.ky).2 : Nat) : Int)) rfl rfl (cv_i64 (n := (delK st a.ky).2) (by omega)) (C rfl rfl (C rfl rfl (C rfl rfl (D [(4, _), (5, _), (6, _)] rfl ?_))))
    refine WC.ret (⟨[_, _, _], (res_tmp rfl (res_tmp rfl (res_tmp rfl res_nil))), ?_⟩)
    have e : doK st a = ((delK st a.ky).1, (((delK st a.ky).2 : Nat) : Int), []) := by unfold doK; first | exact if_pos e14 | (rw [if_neg e14]; first | exact if_pos e26 | (rw [if_neg e26]; first | exact if_pos e34 | (rw [if_neg e34]; first | exact if_pos e42 | (rw [if_neg e42]; first | (rw [if_pos e49]; done) | (rw [if_pos e49]; first | (rw [if_pos hb1]; done) | (rw [hb1]; rfl)) | (rw [if_neg e49]; first | exact if_pos e72 | exact if_neg e72)))))
    rw [e]
    exact ⟨_, _, _, [], rfl, (fun hh q => .nil), G11, ((M9.focus 1 rfl).drop).nils⟩
   ·
    refine C rfl rfl (D [(0, _), (3, _), (12, _), (25, _)] rfl ?_)
    refine WC.condF rfl (J (WC.run (WS.eqlN (a := (a.d).toNat) (b := 2) rfl rfl rfl (fun e34 => ?_) (fun e34 => ?_))))
    ·
     refine C rfl rfl (D [(0, _), (3, _), (12, _), (33, _)] rfl ?_)
     refine WC.condT rfl (J (WC.run (C rfl rfl (C rfl rfl (C rfl rfl (C rfl (op_ld (M3.at 0 rfl) rfl rfl) ?_))))))
     refine WS.call rfl rfl rfl (kBatch_st  G (M3.bare.focus 1 rfl) hok hQa (by omega) (by omega) (fun x hx => ⟨Nat.le_trans (hA.2.2.2 x hx).1 (by omega), Nat.le_trans (hA.2.2.2 x hx).2 (by omega)⟩)) ?_
     rintro _ h12 ⟨rfl, S14, G15, M13⟩
     replace M13 : Mem _ _ (S14 :: [(p1, _)] :: L) _ := M13
     refine WS.opV (.int .i64 (((batK st a.ps).2 : Nat) : Int)) rfl rfl (cv_i64 (n := (batK st a.ps).2) (by have := bat_small (st) a.ps; omega)) (C rfl rfl (C rfl rfl (C rfl rfl (D [(4, _), (5, _), (6, _)] rfl ?_))))
     refine WC.ret (⟨[_, _, _], (res_tmp rfl (res_tmp rfl (res_tmp rfl res_nil))), ?_⟩)
     have e : doK st a = ((batK st a.ps).1, (((batK st a.ps).2 : Nat) : Int), []) := by unfold doK; first | exact if_pos e14 | (rw [if_neg e14]; first | exact if_pos e26 | (rw [if_neg e26]; first | exact if_pos e34 | (rw [if_neg e34]; first | exact if_pos e42 | (rw [if_neg e42]; first | (rw [if_pos e49]; done) | (rw [if_pos e49]; first | (rw [if_pos hb1]; done) | (rw [hb1]; rfl)) | (rw [if_neg e49]; first | exact if_pos e72 | exact if_neg e72)))))
     rw [e]
     exact ⟨_, _, _, [], rfl, (fun hh q => .nil), G15, ((M13.focus 1 rfl).drop).nils⟩
    ·
     refine C rfl rfl (D [(0, _), (3, _), (12, _), (33, _)] rfl ?_)
     refine WC.condF rfl (J (WC.run (WS.eqlN (a := (a.d).toNat) (b := 3) rfl rfl rfl (fun e42 => ?_) (fun e42 => ?_))))
     ·
      refine C rfl rfl (D [(0, _), (3, _), (12, _), (41, _)] rfl ?_)
      refine WC.condT rfl (J (WC.run (C rfl rfl (C rfl rfl (C rfl rfl (C rfl (op_ld (M3.at 0 rfl) rfl rfl) ?_))))))
      refine WS.call rfl rfl rfl (kEnd_st (ls := a.ls) G (M3.bare.focus 1 rfl) hok hN (by omega) (fun x hx => by have q := szI_le hx; simp only [szI] at q; omega)) ?_
      rintro _ h16 ⟨rfl, S18, G19, M17⟩
      replace M17 : Mem _ _ (S18 :: [(p1, _)] :: L) _ := M17
      refine C rfl rfl (C rfl rfl (C rfl rfl (D [(4, _), (5, _), (6, _)] rfl ?_)))
      refine WC.ret (⟨[_, _, _], (res_tmp rfl (res_tmp rfl (res_tmp rfl res_nil))), ?_⟩)
      have e : doK st a = ((endK st a.ls).1, (((endK st a.ls).2 : Nat) : Int), []) := by unfold doK; first | exact if_pos e14 | (rw [if_neg e14]; first | exact if_pos e26 | (rw [if_neg e26]; first | exact if_pos e34 | (rw [if_neg e34]; first | exact if_pos e42 | (rw [if_neg e42]; first | (rw [if_pos e49]; done) | (rw [if_pos e49]; first | (rw [if_pos hb1]; done) | (rw [hb1]; rfl)) | (rw [if_neg e49]; first | exact if_pos e72 | exact if_neg e72)))))
      rw [e]
      exact ⟨_, _, _, [], rfl, (fun hh q => .nil), G19, ((M17.focus 1 rfl).drop).nils⟩
     ·
      refine C rfl rfl (D [(0, _), (3, _), (12, _), (41, _)] rfl ?_)
      refine WC.condF rfl (J (WC.run (WS.eqlN (a := (a.d).toNat) (b := 4) rfl rfl rfl (fun e49 => ?_) (fun e49 => ?_))))
      ·
       refine C rfl rfl (D [(0, _), (3, _), (12, _), (48, _)] rfl ?_)
       refine WC.condT rfl (J (WC.run (C rfl rfl (C rfl rfl (C rfl (op_ld (M3.at 0 rfl) rfl rfl) ?_)))))
       refine WS.call rfl rfl rfl (kGet_st (key := a.ky) G (M3.bare.focus 1 rfl) hN) ?_
       rintro _ h20 ⟨rfl, S22, G23, M21⟩
       replace M21 : Mem _ _ (S22 :: [(p1, _)] :: L) _ := M21
       refine C rfl rfl (C rfl rfl (C rfl rfl ?_))
       refine WS.new M21 rfl ?_
       intro p24 h25 M26
       refine WS.st1 (M26.focus 0 rfl) [_, _, _] [_, _, _] rfl rfl rfl rfl rfl (Nat.le_of_ble_eq_true rfl) (Nat.le_of_ble_eq_true rfl) rfl rfl ?_
       intro h27 M28
       replace M28 : Mem _ _ ([(p24, _)] :: S22 :: [(p1, _)] :: L) _ := M28
       refine C rfl rfl (D [(0, _), (3, _), (7, _), (8, _)] rfl ?_)
       refine J (J (WC.run (C rfl rfl ?_)))
       cases hb1 : (getV st.F a.ky).2
       ·
        refine WS.opV (.bool true) rfl rfl rfl (D [(0, _), (3, _), (7, _), (58, _)] rfl ?_)
        refine WC.condT rfl (J (WC.draw M28 [2] rfl ?_))
        intro rb29 h30 M31
        refine C rfl rfl (C rfl (op_lds [_, _, _] (M31.at 0 rfl) rfl (Nat.le_of_ble_eq_true rfl) rfl) (C rfl rfl (C rfl rfl ?_)))
        refine WS.bslA M31 [_, _, _] 0 rfl rfl rfl rfl rfl ?_
        intro h33 M34
        refine C rfl rfl (D [(4, _), (5, _), (6, _)] rfl ?_)
        refine WC.ret (⟨[_, _, _], (res_tmp rfl (res_tmp rfl (res_tmp rfl res_nil))), ?_⟩)
        have e : doK st a = (st, -1, [getR st.F a.ky]) := by unfold doK; first | exact if_pos e14 | (rw [if_neg e14]; first | exact if_pos e26 | (rw [if_neg e26]; first | exact if_pos e34 | (rw [if_neg e34]; first | exact if_pos e42 | (rw [if_neg e42]; first | (rw [if_pos e49]; done) | (rw [if_pos e49]; first | (rw [if_pos hb1]; done) | (rw [hb1]; rfl)) | (rw [if_neg e49]; first | exact if_pos e72 | exact if_neg e72)))))
        rw [e]
        exact ⟨_, _, _, _, rfl, (fun hh q => sl_all (K := KRwI) (l := [getR st.F a.ky]) (c := _) (by rw [KRwI.flat_one]; exact q _ (List.mem_singleton.2 rfl))), G23, (((M34.bare.focus 1 rfl).drop).focus 2 rfl).drop⟩
       ·
        refine WS.opV (.bool false) rfl rfl rfl (D [(0, _), (3, _), (7, _), (58, _)] rfl ?_)
        refine WC.condF rfl (WC.skip (J (WC.draw M28 [8] rfl ?_)))
        intro rb35 h36 M37
        refine C rfl rfl (C rfl rfl (C rfl rfl (C rfl (op_ld (M37.at 2 rfl) rfl rfl) (C rfl (op_lds [_, _, _] (M37.at 0 rfl) rfl (Nat.le_of_ble_eq_true rfl) rfl) ?_))))
        refine WS.call rfl rfl rfl (Lease_ro M37.here (key := a.ky) G23 (Mem.owni M37 1 rfl) hN) ?_
        rintro _ h38 ⟨rfl, N39⟩
        have M40 := M37.trans N39
        refine WS.chk rfl (op_lds [_, _, _] (M40.at 0 rfl) rfl (Nat.le_of_ble_eq_true rfl) rfl) rfl (sameV_refl rfl) (WS.opV (.int .u64 (((getV st.F a.ky).1.lea.toNat % 65536 : Nat) : Int)) rfl rfl (and65535 (UInt64.toNat_lt _)) (WS.opV (.int .i64 ((((getV st.F a.ky).1.lea.toNat % 65536) : Nat) : Int)) rfl rfl (cv_i64 (n := ((getV st.F a.ky).1.lea.toNat % 65536)) (by omega)) (C rfl rfl (C rfl rfl ?_))))
        refine WS.bslA M40 [_, _, _] 0 rfl rfl rfl rfl rfl ?_
        intro h42 M43
        refine C rfl rfl (D [(4, _), (5, _), (6, _)] rfl ?_)
        refine WC.ret (⟨[_, _, _], (res_tmp rfl (res_tmp rfl (res_tmp rfl res_nil))), ?_⟩)
        have e : doK st a = (st, (((getV st.F a.ky).1.lea.toNat % 65536 : Nat) : Int), [getR st.F a.ky]) := by unfold doK; first | exact if_pos e14 | (rw [if_neg e14]; first | exact if_pos e26 | (rw [if_neg e26]; first | exact if_pos e34 | (rw [if_neg e34]; first | exact if_pos e42 | (rw [if_neg e42]; first | (rw [if_pos e49]; done) | (rw [if_pos e49]; first | (rw [if_pos hb1]; done) | (rw [hb1]; rfl)) | (rw [if_neg e49]; first | exact if_pos e72 | exact if_neg e72)))))
        rw [e]
        exact ⟨_, _, _, _, rfl, (fun hh q => sl_all (K := KRwI) (l := [getR st.F a.ky]) (c := _) (by rw [KRwI.flat_one]; exact q _ (List.mem_singleton.2 rfl))), G23, (((M43.bare.focus 1 rfl).drop).focus 2 rfl).drop⟩
      ·
       refine C rfl rfl (D [(0, _), (3, _), (12, _), (48, _)] rfl ?_)
       refine WC.condF rfl (J (WC.run (WS.eqlN (a := (a.d).toNat) (b := 5) rfl rfl rfl (fun e72 => ?_) (fun e72 => ?_))))
       ·
        refine C rfl rfl (D [(0, _), (3, _), (12, _), (71, _)] rfl ?_)
        refine WC.condT rfl (J (WC.run (C rfl rfl (C rfl rfl (C rfl rfl (C rfl (op_ld (M3.at 0 rfl) rfl rfl) (C rfl rfl (C rfl (op_ld (M3.at 0 rfl) rfl rfl) (C rfl rfl (C rfl (op_ld (M3.at 0 rfl) rfl rfl) ?_))))))))))
        refine WS.call rfl rfl rfl (kRange_st (fr := a.ky) (to := a.va) (most := (a.n).toInt) G (M3.bare.focus 1 rfl) hN) ?_
        rintro V50 h44 ⟨S48, S46, O49, G47, M45⟩
        obtain ⟨P51, rfl⟩ := Row.Own.shape O49
        replace M45 : Mem _ _ (S48 :: S46 :: [(p1, _)] :: L) _ := M45
        refine C rfl rfl (C rfl rfl (C rfl rfl (D [(4, _), (5, _), (6, _)] rfl ?_)))
        refine WC.ret (⟨[_, _, _], (res_tmp rfl (res_tmp rfl (res_tmp rfl res_nil))), ?_⟩)
        have e : doK st a = (st, 0, (rangeF st.F a.ky a.va a.n.toInt).map toRw) := by unfold doK; first | exact if_pos e14 | (rw [if_neg e14]; first | exact if_pos e26 | (rw [if_neg e26]; first | exact if_pos e34 | (rw [if_neg e34]; first | exact if_pos e42 | (rw [if_neg e42]; first | (rw [if_pos e49]; done) | (rw [if_pos e49]; first | (rw [if_pos hb1]; done) | (rw [hb1]; rfl)) | (rw [if_neg e49]; first | exact if_pos e72 | exact if_neg e72)))))
        rw [e]
        exact ⟨_, _, _, _, rfl, (fun hh q => Row.Own.sl O49 q), G47, (M45.focus 2 rfl).drop⟩
       ·
        refine C rfl rfl (D [(0, _), (3, _), (12, _), (71, _)] rfl ?_)
        refine WC.condF rfl (J (WC.run (WS.eqlN (a := (a.d).toNat) (b := 6) rfl rfl rfl (fun e83 => ?_) (fun e83 => ?_))))
        ·
         refine C rfl rfl (D [(0, _), (82, _)] rfl ?_)
         refine WC.condT rfl (J (WC.run (C rfl rfl ?_)))
         refine WS.call rfl rfl rfl (kWrite_st  G (M3.bare.focus 1 rfl) hok hN (Nat.lt_of_lt_of_le hV (by decide))) ?_
         rintro _ h52 ⟨rfl, S54, G55, M53⟩
         replace M53 : Mem _ _ (S54 :: [(p1, _)] :: L) _ := M53
         refine WS.call rfl rfl rfl (kRead_st M53.bare (wrK_len hf)) ?_
         rintro _ h56 (⟨x60, T61, S58, rfl, _, _, hT62, G59, M57⟩ | ⟨rfl, hno, _⟩)
         rotate_left
         · exact absurd rfl (hno _ hf.good)
         rw [hT62 _ hf.good rfl] at G59
         replace M57 : Mem _ _ (S58 :: S54 :: [(p1, _)] :: L) _ := M57
         refine C rfl rfl (C rfl rfl (C rfl rfl (C rfl rfl (C rfl rfl (D [(0, _), (9, _), (10, _)] rfl ?_)))))
         refine J (J (WC.run (C rfl rfl (WS.opV (.bool false) rfl rfl rfl (C rfl rfl (C rfl rfl (WS.opV (.bool false) rfl rfl rfl (C rfl rfl (D [(0, _), (9, _), (95, _)] rfl ?_)))))))))
         refine WC.condF rfl (WC.skip (J (WC.run (C rfl rfl (C rfl rfl (C rfl rfl (C rfl rfl (D [(4, _), (5, _), (6, _)] rfl ?_))))))))
         refine WC.ret (⟨[_, _, _], (res_tmp rfl (res_tmp rfl (res_tmp rfl res_nil))), ?_⟩)
         have e : doK st a = (st, 0, []) := by unfold doK; first | exact if_pos e14 | (rw [if_neg e14]; first | exact if_pos e26 | (rw [if_neg e26]; first | exact if_pos e34 | (rw [if_neg e34]; first | exact if_pos e42 | (rw [if_neg e42]; first | (rw [if_pos e49]; done) | (rw [if_pos e49]; first | (rw [if_pos hb1]; done) | (rw [hb1]; rfl)) | (rw [if_neg e49]; first | exact if_pos e72 | exact if_neg e72)))))
         rw [e]
         exact ⟨_, _, _, [], rfl, (fun hh q => .nil), G59, ((((M57.focus 1 rfl).drop).focus 1 rfl).drop).nils⟩
        ·
         refine C rfl rfl (D [(0, _), (82, _)] rfl ?_)
         refine WC.condF rfl (WC.skip (J (WC.run (C rfl rfl (C rfl rfl (C rfl rfl (C rfl rfl (D [(4, _), (5, _), (6, _)] rfl ?_))))))))
         refine WC.ret (⟨[_, _, _], (res_tmp rfl (res_tmp rfl (res_tmp rfl res_nil))), ?_⟩)
         have e : doK st a = (st, 0, []) := by unfold doK; first | exact if_pos e14 | (rw [if_neg e14]; first | exact if_pos e26 | (rw [if_neg e26]; first | exact if_pos e34 | (rw [if_neg e34]; first | exact if_pos e42 | (rw [if_neg e42]; first | (rw [if_pos e49]; done) | (rw [if_pos e49]; first | (rw [if_pos hb1]; done) | (rw [hb1]; rfl)) | (rw [if_neg e49]; first | exact if_pos e72 | exact if_neg e72)))))
         rw [e]
         exact ⟨_, _, _, [], rfl, (fun hh q => .nil), G, ((M3.focus 0 rfl).drop).nils⟩
end Go.Proofs.Ytkfjlbdedjoojaa.Wt
namespace Go.Proofs.Ytkfjlbdedjoojaa.Wt
open Go Go.Proofs.Ytkfjlbdedjoojaa.Am Go.Proofs.Ytkfjlbdedjoojaa.IrAll
set_option linter.unusedVariables false
set_option linter.unusedSimpArgs false
variable {h base h2 : H} {L : List Seg} {R : List Nat}
theorem same_refl (W : Mem h h [] []) {V V2 : Value} {l : List RwI} (A : KRwI.Sl h V l) (A2 : KRwI.Sl h V2 l) (hl : l.length ≤ 1000000) : Cll tab0 22 [V, V2] h (fun v h2 => v = .bool true ∧ Mem h h2 [] []) :=
  (same_ran W A A2 hl).mono fun v h2 ⟨e, N⟩ => ⟨by rw [e, decide_eq_true rfl], N⟩
theorem fitN {s : KS} (h : KFit s 1700 1000000 30000) : s.F.length ≤ 800000 := Nat.le_trans h.n (by decide)
theorem fitV {s : KS} (h : KFit s 1700 1000000 30000) : s.v < 18446744073709551615 := Nat.lt_of_le_of_lt h.v (by decide)
def runK (s : KS) (l : List Ac) : KS := l.foldl (fun s a => (doK s a).1) s
theorem run_snoc {s : KS} {l : List Ac} {i : Nat} {y : Ac} (hy : l[i]? = some y) : runK s (l.take (i + 1)) = (doK (runK s (l.take i)) y).1 := by
  unfold runK; rw [List.take_add_one, hy]; simp
theorem run_fit {s : KS} {l : List Ac} {n v z : Nat} (h : KFit s n v z) (hl : l.length ≤ 80) (hn : n ≤ 800) (hv : v ≤ 200000) (hO : ∀ a ∈ l, OkA a) : ∀ i, i ≤ l.length → KFit (runK s (l.take i)) (n + 10 * i) (v + 1700 * i) (z + sumA (l.take i)) := by
  intro i
  induction i with
  | zero => intro _; exact h.mono (by omega) (by omega) (by omega)
  | succ i ih =>
    intro hi
    have hy : l[i]? = some l[i] := List.getElem?_eq_getElem (by omega)
    rw [run_snoc hy, sumA_snoc hy]
    exact (do_fit (a := l[i]) (ih (by omega)) (by omega) (hO _ (List.mem_of_getElem? hy)).2.2.1).mono (by omega) (by omega) (by omega)
theorem sumA_take (l : List Ac) (i : Nat) : sumA (l.take i) ≤ sumA l := by
  have : sumA l = sumA (l.take i) + sumA (l.drop i) := by unfold sumA; rw [← List.sum_append, ← List.map_append, List.take_append_drop]
  omega
theorem run_small {s : KS} {l : List Ac} {n v z : Nat} (h : KFit s n v z) (hl : l.length ≤ 80) (hn : n ≤ 800) (hv : v ≤ 200000) (hz : z ≤ 12000) (hO : ∀ a ∈ l, OkA a) (hs : sumA l ≤ 12000) : ∀ i, KFit (runK s (l.take i)) 1700 1000000 30000 := by
  intro i
  have hs2 := sumA_take l i
  by_cases c : i ≤ l.length
  · exact (run_fit h hl hn hv hO i c).mono (by omega) (by omega) (by omega)
  · have := (run_fit h hl hn hv hO l.length (Nat.le_refl _)).mono (n2 := 1700) (v2 := 1000000) (z2 := 30000) (by omega) (by omega) (by rw [List.take_length]; omega)
    rw [List.take_length] at this
    rw [List.take_of_length_le (by omega)]; exact this
theorem run_all {s : KS} {l : List Ac} (h : KFit s 0 0 0) (hl : l.length ≤ 80) (hO : ∀ a ∈ l, OkA a) (hs : sumA l ≤ 12000) : KFit (runK s l) 800 136000 12000 := by
  have := run_fit h hl (by omega) (by omega) hO l.length (Nat.le_refl _)
  rw [List.take_length] at this
  exact this.mono (by omega) (by omega) (by omega)
theorem new_fit (z1 z2 : Int) : KFit ⟨[], heldK z1, heldK z2, 0⟩ 0 0 0 := ⟨⟨new_ok z1 z2, fun y hy => absurd hy (by simp), (by decide : 0 < 18446744073709551616)⟩, Nat.le_refl _, Nat.le_refl _, Nat.le_refl _⟩
theorem do_rows {s : KS} {a : Ac} (h : s.F.length ≤ 800000) : (doK s a).2.2.length ≤ 1000000 := by
  unfold doK
  split; exact Nat.zero_le _
  split; exact Nat.zero_le _
  split; exact Nat.zero_le _
  split; exact Nat.zero_le _
  split; exact (by decide : 1 ≤ 1000000)
  split
  · show (List.map _ _).length ≤ _
    rw [List.length_map]; have := ranF_len s.F a.ky a.va a.n.toInt; omega
  · exact Nat.zero_le _
end Go.Proofs.Ytkfjlbdedjoojaa.Wt
namespace Go.Proofs.Ytkfjlbdedjoojaa.Wt
open Go Go.Proofs.Ytkfjlbdedjoojaa.Am Go.Proofs.Ytkfjlbdedjoojaa.IrAll
open Go.Proofs.Ytkfjlbdedjoojaa.Am.WS renaming op → C
open List renaming length_take → D
open List renaming length_cons → G
open List renaming length_nil → J
open Go.Proofs.Ytkfjlbdedjoojaa.Am.WS renaming nil → U
open List renaming length_singleton → X
open List renaming length_append → Y
open Go.Proofs.Ytkfjlbdedjoojaa.Am.WC renaming seq → AQ
open Go.Proofs.Ytkfjlbdedjoojaa.Am.WC renaming run → AX
open List renaming length_drop → AZ
open Nat renaming le_of_ble_eq_true → BQ
set_option linter.unusedVariables false
set_option linter.unusedSimpArgs false
variable {h base h2 : H} {L : List Seg} {R : List Nat}
theorem szF_snoc {F : List It} {i : Nat} {y : It} (hy : F[i]? = some y) : szF (F.take (i + 1)) = szF (F.take i) + (y.ky.length + y.va.length) := by
  rw [List.take_add_one, hy, szF_app]; simp [szF, szI]
theorem rSize_ran (W : Mem h h [] []) {V : Value} {F : List It} (A : KIt.Sl h V F) (hl : F.length ≤ 900000) (hz : szF F ≤ 4294967296) : Cll tab0 23 [V] h (fun v h2 => v = .int .i64 ((szF F : Nat) : Int) ∧ Mem h h2 [] []) := by
  obtain ⟨Pl, nl, rfl⟩ := A.shape
  refine Cll.code rfl rfl ?_
  refine WC.env [(0, _)] rfl ?_
  refine AQ (AX (C rfl rfl (U [(0, _)] rfl ?_)))
  refine AQ (AX (C rfl rfl (U [(0, _), (3, _)] rfl ?_)))
  refine AQ (AQ (AX (C rfl rfl (U [(0, _), (3, _), (4, _)] rfl ?_))))
  refine WC.block ?_
  obtain ⟨L1, eL3, M2⟩ := Mem.name W.bare
  refine WC.loop (σ := Nat × Nat) (fun ((n, i)) => [(0, (.slice Pl F.length nl)), (3, (.int .i64 ((n : Nat) : Int))), (4, (.int .i64 ((i : Nat) : Int)))]) (fun ((n, i)) hh => Mem h hh (L1) [] ∧ n = szF (F.take i) ∧ i ≤ F.length) (fun ((n, i)) => F.length - i) (0, 0) rfl ⟨M2, ?_⟩ ?_
  · exact ⟨rfl, by omega⟩
  ·rintro ⟨n, i⟩ h4 ⟨M5, ⟨hn, hi⟩⟩
   replace eL3 := eL3.symm; subst eL3
   refine WC.env [(0, _), (3, _), (4, _)] rfl ?_
   refine AQ (AQ (AX (C rfl rfl (C rfl rfl (C rfl (op_lenVS A rfl) ?_)))))
   refine WS.lssN (a := i) (b := (F).length) rfl rfl rfl (fun e8 => ?_) (fun e8 => ?_)
   ·
    refine U [(0, _), (3, _), (4, _), (8, _)] rfl ?_
    refine WC.condT rfl (WC.skip (AQ (WC.block (WC.draw M5 [] rfl ?_))))
    intro rb6 h7 M8
    refine C rfl rfl (C rfl rfl (C rfl rfl ?_))
    obtain ⟨y14, hy14⟩ : ∃ y, (F)[i]? = some y := ⟨_, List.getElem?_eq_getElem (show i < (F).length by first | omega | (simp only [AZ, D, Y, G, J, X]; omega) | (simp only [AZ, D, Y, G, J, X] at *; omega))⟩
    refine WS.iaVS A i hy14 rfl rfl rfl rfl ?_
    intro b14_ o14_ ha14
    have hsn := szF_snoc hy14
    have hst := sz_take (F := F) (i + 1)
    refine C rfl rfl (C rfl (op_ldH rfl (At.ld0 (ha14.mono M8.sub) rfl)) (C rfl (op_lenS (l := y14.ky) rfl) (WS.opV (.int .i64 (((n + (y14.ky).length) : Nat) : Int)) rfl rfl (add_i64 (a := n) (b := (y14.ky).length) (by omega)) (C rfl rfl (C rfl rfl ?_)))))
    refine WS.iaVS A i hy14 rfl rfl rfl rfl ?_
    intro b21_ o21_ ha21
    refine C rfl rfl (C rfl (op_ldH rfl (At.ld (k := 1) (ha21.mono M8.sub) rfl)) (C rfl (op_lenS (l := y14.va) rfl) (WS.opV (.int .i64 ((((n + (y14.ky).length) + (y14.va).length) : Nat) : Int)) rfl rfl (add_i64 (a := (n + (y14.ky).length)) (b := (y14.va).length) (by omega)) (C rfl rfl (U [(0, _), (3, _), (4, _)] rfl ?_)))))
    refine AX (C rfl rfl (WS.opV (.int .i64 (((i + 1) : Nat) : Int)) rfl rfl (add_i64 (a := i) (b := 1) (by omega)) (C rfl rfl (U [(0, _), (3, _), (4, _)] rfl ?_))))
    refine ⟨(((n + (y14.ky).length) + (y14.va).length), i + 1), rfl, ⟨(M8.bare.bare.take 0), ?_⟩, ?_⟩
    · exact ⟨by omega, by omega⟩
    · simp only []; omega
   ·
    refine U [(0, _), (3, _), (4, _), (8, _)] rfl ?_
    refine WC.condF rfl (WC.exit ?_)
    refine AQ (AX (C rfl rfl (C rfl rfl (U [(2, _)] rfl ?_))))
    refine WC.ret (⟨[_], (res_tmp rfl res_nil), ?_⟩)
    have e : n = szF F := by rw [hn, List.take_of_length_le (by omega)]
    subst e
    exact ⟨rfl, M5.bare.take 0⟩
theorem delF_snoc {F : List It} {key : List UInt8} {i : Nat} {y : It} (hy : F[i]? = some y) : delF (F.take (i + 1)) key = delF (F.take i) key ++ if y.ky = key then [] else [y] := by
  unfold delF
  rw [List.take_add_one, hy, Option.toList_some, List.filter_append]
  congr 1
  by_cases c : y.ky = key
  · rw [if_pos c, List.filter_cons_of_neg (by simpa using c)]; rfl
  · rw [if_neg c, List.filter_cons_of_pos (by simpa using c)]; rfl
theorem without_ran (W : Mem h h [] []) {V : Value} {F : List It} {key : List UInt8} (A : KIt.Sl h V F) (hl : F.length ≤ 900000) : Cll tab0 60 [V, .string (bs key)] h (fun v h2 => ∃ S, KIt.Own v (delF F key) S ∧ Mem h h2 [S] []) := by
  obtain ⟨Pl, nl, rfl⟩ := A.shape
  refine Cll.code rfl rfl ?_
  refine WC.env [(0, _), (1, _)] rfl ?_
  refine AQ (AX (C rfl rfl (U [(0, _), (1, _)] rfl ?_)))
  refine AQ (AX (C rfl rfl (U [(0, _), (1, _), (5, _)] rfl ?_)))
  refine AQ (AQ (AX (C rfl rfl (U [(0, _), (1, _), (5, _), (6, _)] rfl ?_))))
  refine WC.block ?_
  obtain ⟨L1, eL3, M2⟩ := Mem.name1 ((W.bare).nils)
  refine WC.loop (σ := Value × Seg × Nat) (fun ((V_, S_, i)) => [(0, (.slice Pl F.length nl)), (1, (.string (bs key))), (5, V_), (6, (.int .i64 ((i : Nat) : Int)))]) (fun ((V_, S_, i)) hh => Mem h hh (S_ :: L1) [] ∧ KIt.Own V_ (delF (F.take i) key) S_ ∧ i ≤ F.length) (fun ((V_, S_, i)) => F.length - i) (_, _, 0) rfl ⟨M2, ?_⟩ ?_
  · exact ⟨.nil, by omega⟩
  ·rintro ⟨V_, S_, i⟩ h4 ⟨M5, ⟨hO_, hi⟩⟩
   replace eL3 := eL3.symm; subst eL3
   refine WC.env [(0, _), (1, _), (5, _), (6, _)] rfl ?_
   have hdl : (delF (F.take i) key).length ≤ i := Nat.le_trans (List.length_filter_le ..) (by rw [D]; omega)
   refine AQ (AQ (AX (C rfl rfl (C rfl rfl (C rfl (op_lenVS A rfl) ?_)))))
   refine WS.lssN (a := i) (b := (F).length) rfl rfl rfl (fun e10 => ?_) (fun e10 => ?_)
   ·
    refine U [(0, _), (1, _), (5, _), (6, _), (10, _)] rfl ?_
    refine WC.condT rfl (WC.skip (AQ (WC.block (AQ (AX (C rfl rfl (C rfl rfl ?_)))))))
    obtain ⟨y15, hy15⟩ : ∃ y, (F)[i]? = some y := ⟨_, List.getElem?_eq_getElem (show i < (F).length by first | omega | (simp only [AZ, D, Y, G, J, X]; omega) | (simp only [AZ, D, Y, G, J, X] at *; omega))⟩
    refine WS.iaVS A i hy15 rfl rfl rfl rfl ?_
    intro b15_ o15_ ha15
    refine C rfl rfl (C rfl (op_ldH rfl (At.ld0 (ha15.mono M5.sub) rfl)) (C rfl rfl ?_))
    refine WS.sneq (l := y15.ky) (m := key) rfl rfl rfl (fun e19 => ?_) (fun e19 => ?_)
    ·
     refine U [(0, _), (1, _), (5, _), (6, _), (19, _)] rfl ?_
     refine WC.condT rfl (AX (C rfl rfl (C rfl rfl (C rfl rfl ?_))))
     refine WS.iaVS A i hy15 rfl rfl rfl rfl ?_
     intro b23_ o23_ ha23
     refine C rfl (op_ldAt rfl (ha23.mono M5.sub) rfl) ?_
     refine WS.bsl M5 [_, _, _, _] rfl rfl rfl rfl ?_
     intro p6 h7 M8
     refine WS.app (l := (delF (F.take i) key)) (m := [y15]) (hO_) (M8.focus 1 rfl) (Row.Src.one (K := KIt) (m := [y15]) (M8.at 0 rfl)) rfl (by simp only [G, J]; omega) (by simp only [G, J]; omega) rfl rfl rfl ?_
     intro V9 S10 h11 O12 M13
     obtain ⟨P14, rfl⟩ := Row.Own.shape O12
     refine C rfl rfl (U [(0, _), (1, _), (5, _), (6, _)] rfl ?_)
     refine AX (C rfl rfl (WS.opV (.int .i64 (((i + 1) : Nat) : Int)) rfl rfl (add_i64 (a := i) (b := 1) (by omega)) (C rfl rfl (U [(0, _), (1, _), (5, _), (6, _)] rfl ?_))))
     refine ⟨((.slice P14 (((delF (F.take i) key) ++ [y15])).length (2 * (((delF (F.take i) key) ++ [y15])).length)), S10, i + 1), rfl, ⟨((M13.bare.focus 0 rfl).take 1), ?_⟩, ?_⟩
     · exact ⟨by rw [delF_snoc hy15]; first | (rw [if_neg e19]; exact O12) | (rw [if_pos e19, List.append_nil]; exact O12), by omega⟩
     · simp only []; omega
    ·
     refine U [(0, _), (1, _), (5, _), (6, _), (19, _)] rfl ?_
     refine WC.condF rfl (WC.skip (AX (C rfl rfl (WS.opV (.int .i64 (((i + 1) : Nat) : Int)) rfl rfl (add_i64 (a := i) (b := 1) (by omega)) (C rfl rfl (U [(0, _), (1, _), (5, _), (6, _)] rfl ?_))))))
     refine ⟨(V_, S_, i + 1), rfl, ⟨((M5.bare.focus 0 rfl).take 1), ?_⟩, ?_⟩
     · exact ⟨by rw [delF_snoc hy15]; first | (rw [if_neg e19]; exact hO_) | (rw [if_pos e19, List.append_nil]; exact hO_), by omega⟩
     · simp only []; omega
   ·
    refine U [(0, _), (1, _), (5, _), (6, _), (10, _)] rfl ?_
    refine WC.condF rfl (WC.exit ?_)
    refine AQ (AX (C rfl rfl (C rfl rfl (U [(4, _)] rfl ?_))))
    refine WC.ret (⟨[_], (res_tmp rfl res_nil), ?_⟩)
    rw [List.take_of_length_le (by omega)] at hO_
    exact ⟨S_, hO_, ((M5.bare.focus 0 rfl).take 1)⟩
theorem find_at {F : List It} {key : List UInt8} {i : Nat} {y : It} (hn : ∀ k x, k < i → F[k]? = some x → x.ky ≠ key) (hy : F[i]? = some y) (he : y.ky = key) : getF F key = some y := by
  have e : F = F.take i ++ y :: F.drop (i + 1) := by
    rw [← (List.getElem?_eq_some_iff.1 hy).2, List.getElem_cons_drop, List.take_append_drop]
  unfold getF
  rw [e, List.find?_append, List.find?_eq_none.2 (fun x hx => by
    obtain ⟨k, hk, rfl⟩ := List.getElem_of_mem hx
    rw [D] at hk
    have := hn k F[k] (by omega) (List.getElem?_eq_getElem (by omega))
    rw [List.getElem_take]; simpa using this), Option.none_or, List.find?_cons_of_pos (p := fun x : It => decide (x.ky = key)) (by simpa using he)]
theorem find_no {F : List It} {key : List UInt8} {i : Nat} (hn : ∀ k x, k < i → F[k]? = some x → x.ky ≠ key) (hi : F.length ≤ i) : getF F key = none :=
  get_none fun x hx => by
    obtain ⟨k, hk, rfl⟩ := List.getElem_of_mem hx
    exact hn k _ (by omega) (List.getElem?_eq_getElem hk)
def findI (F : List It) (key : List UInt8) : It := (getF F key).getD ⟨[], [], 0, 0⟩
theorem findI_get {F : List It} {key : List UInt8} : (⟨(findI F key).va, (findI F key).vn, (findI F key).ls⟩ : Vl) = (getV F key).1 := by
  unfold findI getV
  cases getF F key <;> rfl
theorem findI_row {F : List It} {key : List UInt8} (hb : (getV F key).2 = true) : toRw (findI F key) = getR F key := by
  unfold getR
  rw [if_pos hb]
  have e := findI_get (F := F) (key := key)
  rw [← e]
  unfold findI
  unfold getV at hb
  cases q : getF F key with
  | none => rw [q] at hb; cases hb
  | some x =>
    have := List.find?_some (show F.find? (fun x => decide (x.ky = key)) = some x from q)
    show (⟨x.ky, x.va, x.vn⟩ : RwI) = ⟨key, x.va, x.vn⟩
    rw [of_decide_eq_true this]
theorem Find_ran (W : Mem h h [] []) {V : Value} {F : List It} {key : List UInt8} (A : KIt.Sl h V F) (hl : F.length ≤ 900000) : Cll tab0 44 [V, .string (bs key)] h (fun v h2 => v = .tuple #[.agg (It.cells (findI F key)).toArray, .bool (getV F key).2] ∧ Mem h h2 [] []) := by
  obtain ⟨Pl, nl, rfl⟩ := A.shape
  refine Cll.code rfl rfl ?_
  refine WC.env [(0, _), (1, _)] rfl ?_
  refine AQ (AX (WS.new W rfl ?_))
  intro p1 h2 M3
  refine C rfl rfl (U [(0, _), (1, _), (4, _)] rfl ?_)
  refine AQ (AQ (AX (C rfl rfl (U [(0, _), (1, _), (4, _), (6, _)] rfl ?_))))
  refine WC.block ?_
  obtain ⟨L4, eL6, M5⟩ := Mem.name M3.bare
  refine WC.loop (σ := Nat) (fun (i) => [(0, (.slice Pl F.length nl)), (1, (.string (bs key))), (4, (.pointer (some ⟨p1, 0, none⟩))), (6, (.int .i64 ((i : Nat) : Int)))]) (fun (i) hh => Mem h hh (L4) [] ∧ i ≤ F.length ∧ ∀ k x, k < i → F[k]? = some x → x.ky ≠ key) (fun (i) => F.length - i) (0) rfl ⟨M5, ?_⟩ ?_
  · exact ⟨by omega, fun k x q => by omega⟩
  ·rintro i h7 ⟨M8, ⟨hi, hN⟩⟩
   replace eL6 := eL6.symm; subst eL6
   refine WC.env [(0, _), (1, _), (4, _), (6, _)] rfl ?_
   refine AQ (AQ (AX (C rfl rfl (C rfl rfl (C rfl (op_lenVS A rfl) ?_)))))
   refine WS.lssN (a := i) (b := (F).length) rfl rfl rfl (fun e10 => ?_) (fun e10 => ?_)
   ·
    refine U [(0, _), (1, _), (4, _), (6, _), (10, _)] rfl ?_
    refine WC.condT rfl (WC.skip (AQ (WC.block (AQ (AX (C rfl rfl (C rfl rfl ?_)))))))
    obtain ⟨y15, hy15⟩ : ∃ y, (F)[i]? = some y := ⟨_, List.getElem?_eq_getElem (show i < (F).length by first | omega | (simp only [AZ, D, Y, G, J, X]; omega) | (simp only [AZ, D, Y, G, J, X] at *; omega))⟩
    refine WS.iaVS A i hy15 rfl rfl rfl rfl ?_
    intro b15_ o15_ ha15
    refine C rfl rfl (C rfl (op_ldH rfl (At.ld0 (ha15.mono M8.sub) rfl)) (C rfl rfl ?_))
    refine WS.seql (l := y15.ky) (m := key) rfl rfl rfl (fun e19 => ?_) (fun e19 => ?_)
    ·
     refine U [(0, _), (1, _), (4, _), (6, _), (19, _)] rfl ?_
     refine WC.condT rfl (AQ (AX (C rfl rfl (C rfl rfl ?_))))
     refine WS.iaVS A i hy15 rfl rfl rfl rfl ?_
     intro b22_ o22_ ha22
     refine C rfl (op_ldAt rfl (ha22.mono M8.sub) rfl) ?_
     refine WS.st1 (M8.focus 0 rfl) [_, _, _, _] [_, _, _, _] rfl rfl rfl rfl rfl (BQ rfl) (BQ rfl) rfl rfl ?_
     intro h9 M10
     replace M10 : Mem _ _ ([(p1, _)] :: []) _ := M10
     refine C rfl rfl (U [(4, _), (5, _)] rfl ?_)
     refine WC.ret (⟨[_, _], (res_cellN [_, _, _, _] rfl (M10.at 0 rfl) (BQ rfl) rfl (res_tmp rfl res_nil)), ?_⟩)
     exact ⟨by unfold findI getV; rw [find_at hN hy15 e19]; rfl, M10.bare.take 0⟩
    ·
     refine U [(0, _), (1, _), (4, _), (6, _), (19, _)] rfl ?_
     refine WC.condF rfl (WC.skip (AX (C rfl rfl (WS.opV (.int .i64 (((i + 1) : Nat) : Int)) rfl rfl (add_i64 (a := i) (b := 1) (by omega)) (C rfl rfl (U [(0, _), (1, _), (4, _), (6, _)] rfl ?_))))))
     refine ⟨i + 1, rfl, ⟨((M8.bare.focus 0 rfl).take 1), ?_⟩, ?_⟩
     · exact ⟨by omega, fun k x q hx => if c : k = i then (by subst c; rw [hy15] at hx; cases hx; exact e19) else hN k x (by omega) hx⟩
     · simp only []; omega
   ·
    refine U [(0, _), (1, _), (4, _), (6, _), (10, _)] rfl ?_
    refine WC.condF rfl (WC.exit ?_)
    refine AQ (AX (WS.opV (.agg #[(.string (bs ([]))), (.string (bs ([]))), (.int .u64 (0 : Int)), (.int .u64 (0 : Int))]) rfl rfl rfl ?_))
    refine WS.st1 (M8.focus 0 rfl) [_, _, _, _] [_, _, _, _] rfl rfl rfl rfl rfl (BQ rfl) (BQ rfl) rfl rfl ?_
    intro h11 M12
    replace M12 : Mem _ _ ([(p1, _)] :: []) _ := M12
    refine C rfl rfl (U [(4, _), (5, _)] rfl ?_)
    refine WC.ret (⟨[_, _], (res_cellN [_, _, _, _] rfl (M12.at 0 rfl) (BQ rfl) rfl (res_tmp rfl res_nil)), ?_⟩)
    exact ⟨by unfold findI getV; rw [find_no hN (by omega)]; rfl, M12.bare.take 0⟩
def ok2 (fr to : List UInt8) (x : It) : Bool := !decide (kL x.ky fr) && decide (okTo to x)
theorem rangeF_ok2 (F : List It) (fr to : List UInt8) (most : Int) : rangeF F fr to most = (F.filter (ok2 fr to)).take most.toNat := by
  unfold rangeF geF
  rw [List.filter_filter]
  congr 2
  funext x
  unfold ok2; rw [Bool.and_comm]
theorem take_filter {F : List It} {p : It → Bool} {i : Nat} {x : It} (hx : F[i]? = some x) : (F.take (i + 1)).filter p = (F.take i).filter p ++ if p x = true then [x] else [] := by
  rw [List.take_add_one, hx, Option.toList_some, List.filter_append]
  congr 1
  by_cases c : p x = true
  · rw [if_pos c, List.filter_cons_of_pos c]; rfl
  · rw [if_neg c, List.filter_cons_of_neg c]; rfl
theorem rr_skip {F out : List It} {fr to : List UInt8} {most : Int} {i : Nat} {x : It} (h : out = ((F.take i).filter (ok2 fr to)).take most.toNat) (hx : F[i]? = some x) (hs : ok2 fr to x = false ∨ most ≤ (out.length : Int)) : out = ((F.take (i + 1)).filter (ok2 fr to)).take most.toNat := by
  rw [take_filter hx]
  rcases hs with hs | hs
  · rw [if_neg (by rw [hs]; simp), List.append_nil]; exact h
  · have hl := congrArg List.length h
    rw [D] at hl
    rw [List.take_append_of_le_length (by omega)]; exact h
theorem rr_take {F out : List It} {fr to : List UInt8} {most : Int} {i : Nat} {x : It} (h : out = ((F.take i).filter (ok2 fr to)).take most.toNat) (hx : F[i]? = some x) (ho : ok2 fr to x = true) (hm : (out.length : Int) < most) : out ++ [x] = ((F.take (i + 1)).filter (ok2 fr to)).take most.toNat := by
  have hl := congrArg List.length h
  rw [D] at hl
  have e : out = (F.take i).filter (ok2 fr to) := by rw [h, List.take_of_length_le (by omega)]
  rw [take_filter hx, if_pos ho, ← e, List.take_of_length_le (by simp; omega)]
set_option maxRecDepth 8000 in
theorem rRange_ran (W : Mem h h [] []) {V : Value} {F : List It} {K Mx v : Nat} {fr to : List UInt8} {most : Int} (A : KIt.Sl h V F) (hl : F.length ≤ 900000) : Cll tab0 45 [.agg #[V, .int .i64 (K : Int), .int .i64 (Mx : Int), .int .u64 (v : Int)], .string (bs fr), .string (bs to), .int .i64 most] h (fun v h2 => ∃ S, KRwI.Own v ((rangeF F fr to most).map toRw) S ∧ Mem h h2 [S] []) := by
  obtain ⟨Pl, nl, rfl⟩ := A.shape
  refine Cll.code rfl rfl ?_
  refine WC.env [(0, _), (1, _), (2, _), (3, _)] rfl ?_
  refine AQ (AX (WS.box W [_, _, _, _] rfl rfl rfl rfl ?_))
  intro p1 h2 M3
  refine C rfl rfl (U [(1, _), (2, _), (3, _), (4, _)] rfl ?_)
  refine AQ (AX (C rfl rfl (U [(1, _), (2, _), (3, _), (4, _), (9, _)] rfl ?_)))
  refine AQ (AQ (AX (C rfl rfl (U [(1, _), (2, _), (3, _), (4, _), (9, _), (10, _)] rfl ?_))))
  refine WC.block ?_
  obtain ⟨L4, eL6, M5⟩ := Mem.name1 ((M3.bare).nils)
  refine WC.loop (σ := Value × Seg × List It × Nat) (fun ((V_, S_, out, i)) => [(1, (.string (bs fr))), (2, (.string (bs to))), (3, (.int .i64 most)), (4, (.pointer (some ⟨p1, 0, none⟩))), (9, V_), (10, (.int .i64 ((i : Nat) : Int)))]) (fun ((V_, S_, out, i)) hh => Mem h hh (S_ :: L4) [] ∧ KRwI.Own V_ (out.map toRw) S_ ∧ out = ((F.take i).filter (ok2 fr to)).take most.toNat ∧ i ≤ F.length) (fun ((V_, S_, out, i)) => F.length - i) (_, _, [], 0) rfl ⟨M5, ?_⟩ ?_
  · exact ⟨.nil, by simp, by omega⟩
  ·rintro ⟨V_, S_, out, i⟩ h7 ⟨M8, ⟨hO_, hE, hi⟩⟩
   replace eL6 := eL6.symm; subst eL6
   refine WC.env [(1, _), (2, _), (3, _), (4, _), (9, _), (10, _)] rfl ?_
   have hml : (out.map toRw).length = out.length := List.length_map ..
   refine AQ (AQ (AX (C rfl rfl (C rfl rfl (C rfl (op_ld (M8.at 1 rfl) rfl rfl) (C rfl (op_lenVS A rfl) ?_))))))
   refine WS.lssN (a := i) (b := (F).length) rfl rfl rfl (fun e16 => ?_) (fun e16 => ?_)
   ·
    refine U [(1, _), (2, _), (3, _), (4, _), (9, _), (10, _), (16, _)] rfl ?_
    refine WC.condT rfl (WC.skip (AQ (WC.block (AQ (AX (C rfl rfl (C rfl (op_ld (M8.at 1 rfl) rfl rfl) (C rfl rfl ?_))))))))
    obtain ⟨y22, hy22⟩ : ∃ y, (F)[i]? = some y := ⟨_, List.getElem?_eq_getElem (show i < (F).length by first | omega | (simp only [AZ, D, Y, G, J, X]; omega) | (simp only [AZ, D, Y, G, J, X] at *; omega))⟩
    refine WS.iaVS A i hy22 rfl rfl rfl rfl ?_
    intro b22_ o22_ ha22
    refine C rfl (op_ldAt rfl (ha22.mono M8.sub) rfl) ?_
    refine WS.new M8 rfl ?_
    intro p9 h10 M11
    refine WS.st1 (M11.focus 0 rfl) [_, _, _, _] [_, _, _, _] rfl rfl rfl rfl rfl (BQ rfl) (BQ rfl) rfl rfl ?_
    intro h12 M13
    replace M13 : Mem _ _ ([(p9, _)] :: S_ :: [(p1, _)] :: []) _ := M13
    refine U [(1, _), (2, _), (3, _), (4, _), (9, _), (10, _), (11, _)] rfl ?_
    refine AQ (AX (C rfl rfl (C rfl (op_ld (M13.at 0 rfl) rfl rfl) (C rfl rfl ?_))))
    refine WS.sgeq (l := y22.ky) (m := fr) rfl rfl rfl (fun e27 => ?_) (fun e27 => ?_)
    ·
     refine C rfl rfl (C rfl rfl ?_)
     refine WS.seql (l := to) (m := []) rfl rfl rfl (fun e30 => ?_) (fun e30 => ?_)
     ·
      refine C rfl rfl (WS.off rfl (WS.off rfl (WS.off rfl (WS.off rfl (C rfl rfl (C rfl rfl (C rfl rfl (C rfl rfl (C rfl (op_lenVO hO_ rfl) ?_)))))))))
      refine C rfl rfl ?_
      refine WS.lss (a := ((((out.map toRw)).length : Nat) : Int)) (b := most) rfl rfl rfl (fun e42 => ?_) (fun e42 => ?_)
      ·
       refine C rfl rfl (U [(1, _), (2, _), (3, _), (4, _), (9, _), (10, _), (11, _), (43, _)] rfl ?_)
       refine WC.condT rfl (AX (C rfl rfl (C rfl rfl (C rfl (op_ld (M13.at 0 rfl) rfl rfl) (C rfl rfl (C rfl (op_ld (M13.at 0 rfl) rfl rfl) (C rfl rfl (C rfl (op_ld (M13.at 0 rfl) rfl rfl) (WS.opV (.agg #[(.string (bs y22.ky)), (.string (bs y22.va)), (.int .u64 (((y22.vn).toNat : Nat) : Int))]) rfl rfl rfl ?_)))))))))
       refine WS.bsl M13 [_, _, _] rfl rfl rfl rfl ?_
       intro p14 h15 M16
       refine WS.app (l := (out.map toRw)) (m := [toRw y22]) (hO_) (M16.focus 2 rfl) (Row.Src.one (K := KRwI) (m := [toRw y22]) (M16.at 0 rfl)) rfl (by have := congrArg List.length hE; have q := List.length_filter_le (ok2 fr to) (F.take i); simp only [D, List.length_map, G, J] at this q ⊢; omega) (by have := congrArg List.length hE; have q := List.length_filter_le (ok2 fr to) (F.take i); simp only [D, List.length_map, G, J] at this q ⊢; omega) rfl rfl rfl ?_
       intro V17 S18 h19 O20 M21
       obtain ⟨P22, rfl⟩ := Row.Own.shape O20
       refine C rfl rfl (U [(1, _), (2, _), (3, _), (4, _), (9, _), (10, _)] rfl ?_)
       refine AX (C rfl rfl (WS.opV (.int .i64 (((i + 1) : Nat) : Int)) rfl rfl (add_i64 (a := i) (b := 1) (by omega)) (C rfl rfl (U [(1, _), (2, _), (3, _), (4, _), (9, _), (10, _)] rfl ?_))))
       refine ⟨((.slice P22 (((out.map toRw) ++ [toRw y22])).length (2 * (((out.map toRw) ++ [toRw y22])).length)), S18, out ++ [y22], i + 1), rfl, ⟨(((M21.bare.focus 3 rfl).focus 1 rfl).take 2), ?_⟩, ?_⟩
       · exact ⟨by rw [List.map_append]; exact O20, rr_take hE hy22 (by unfold ok2 okTo; simp_all) (by omega), by omega⟩
       · simp only []; omega
      ·
       refine C rfl rfl (U [(1, _), (2, _), (3, _), (4, _), (9, _), (10, _), (11, _), (43, _)] rfl ?_)
       refine WC.condF rfl (WC.skip (AX (C rfl rfl (WS.opV (.int .i64 (((i + 1) : Nat) : Int)) rfl rfl (add_i64 (a := i) (b := 1) (by omega)) (C rfl rfl (U [(1, _), (2, _), (3, _), (4, _), (9, _), (10, _)] rfl ?_))))))
       refine ⟨(V_, S_, out, i + 1), rfl, ⟨(((M13.bare.focus 2 rfl).focus 2 rfl).take 2), ?_⟩, ?_⟩
       · exact ⟨hO_, rr_skip hE hy22 (by first | exact Or.inr (by omega) | (left; unfold ok2 okTo; simp_all)), by omega⟩
       · simp only []; omega
     ·
      refine C rfl rfl (C rfl rfl (C rfl (op_ld (M13.at 0 rfl) rfl rfl) (C rfl rfl ?_)))
      refine WS.slss (l := y22.ky) (m := to) rfl rfl rfl (fun e35 => ?_) (fun e35 => ?_)
      ·
       refine C rfl rfl (C rfl rfl (C rfl rfl (C rfl rfl (C rfl (op_lenVO hO_ rfl) (C rfl rfl ?_)))))
       refine WS.lss (a := ((((out.map toRw)).length : Nat) : Int)) (b := most) rfl rfl rfl (fun e42 => ?_) (fun e42 => ?_)
       ·
        refine C rfl rfl (U [(1, _), (2, _), (3, _), (4, _), (9, _), (10, _), (11, _), (43, _)] rfl ?_)
        refine WC.condT rfl (AX (C rfl rfl (C rfl rfl (C rfl (op_ld (M13.at 0 rfl) rfl rfl) (C rfl rfl (C rfl (op_ld (M13.at 0 rfl) rfl rfl) (C rfl rfl (C rfl (op_ld (M13.at 0 rfl) rfl rfl) (WS.opV (.agg #[(.string (bs y22.ky)), (.string (bs y22.va)), (.int .u64 (((y22.vn).toNat : Nat) : Int))]) rfl rfl rfl ?_)))))))))
        refine WS.bsl M13 [_, _, _] rfl rfl rfl rfl ?_
        intro p23 h24 M25
        refine WS.app (l := (out.map toRw)) (m := [toRw y22]) (hO_) (M25.focus 2 rfl) (Row.Src.one (K := KRwI) (m := [toRw y22]) (M25.at 0 rfl)) rfl (by have := congrArg List.length hE; have q := List.length_filter_le (ok2 fr to) (F.take i); simp only [D, List.length_map, G, J] at this q ⊢; omega) (by have := congrArg List.length hE; have q := List.length_filter_le (ok2 fr to) (F.take i); simp only [D, List.length_map, G, J] at this q ⊢; omega) rfl rfl rfl ?_
        intro V26 S27 h28 O29 M30
        obtain ⟨P31, rfl⟩ := Row.Own.shape O29
        refine C rfl rfl (U [(1, _), (2, _), (3, _), (4, _), (9, _), (10, _)] rfl ?_)
        refine AX (C rfl rfl (WS.opV (.int .i64 (((i + 1) : Nat) : Int)) rfl rfl (add_i64 (a := i) (b := 1) (by omega)) (C rfl rfl (U [(1, _), (2, _), (3, _), (4, _), (9, _), (10, _)] rfl ?_))))
        refine ⟨((.slice P31 (((out.map toRw) ++ [toRw y22])).length (2 * (((out.map toRw) ++ [toRw y22])).length)), S27, out ++ [y22], i + 1), rfl, ⟨(((M30.bare.focus 3 rfl).focus 1 rfl).take 2), ?_⟩, ?_⟩
        · exact ⟨by rw [List.map_append]; exact O29, rr_take hE hy22 (by unfold ok2 okTo; simp_all) (by omega), by omega⟩
        · simp only []; omega
       ·
        refine C rfl rfl (U [(1, _), (2, _), (3, _), (4, _), (9, _), (10, _), (11, _), (43, _)] rfl ?_)
        refine WC.condF rfl (WC.skip (AX (C rfl rfl (WS.opV (.int .i64 (((i + 1) : Nat) : Int)) rfl rfl (add_i64 (a := i) (b := 1) (by omega)) (C rfl rfl (U [(1, _), (2, _), (3, _), (4, _), (9, _), (10, _)] rfl ?_))))))
        refine ⟨(V_, S_, out, i + 1), rfl, ⟨(((M13.bare.focus 2 rfl).focus 2 rfl).take 2), ?_⟩, ?_⟩
        · exact ⟨hO_, rr_skip hE hy22 (by first | exact Or.inr (by omega) | (left; unfold ok2 okTo; simp_all)), by omega⟩
        · simp only []; omega
      ·
       refine C rfl rfl (C rfl rfl (C rfl rfl (WS.off rfl (WS.off rfl (WS.off rfl (WS.off rfl (C rfl rfl (U [(1, _), (2, _), (3, _), (4, _), (9, _), (10, _), (11, _), (43, _)] rfl ?_))))))))
       refine WC.condF rfl (WC.skip (AX (C rfl rfl (WS.opV (.int .i64 (((i + 1) : Nat) : Int)) rfl rfl (add_i64 (a := i) (b := 1) (by omega)) (C rfl rfl (U [(1, _), (2, _), (3, _), (4, _), (9, _), (10, _)] rfl ?_))))))
       refine ⟨(V_, S_, out, i + 1), rfl, ⟨(((M13.bare.focus 2 rfl).focus 2 rfl).take 2), ?_⟩, ?_⟩
       · exact ⟨hO_, rr_skip hE hy22 (by first | exact Or.inr (by omega) | (left; unfold ok2 okTo; simp_all)), by omega⟩
       · simp only []; omega
    ·
     refine C rfl rfl (WS.off rfl (WS.off rfl (WS.off rfl (WS.off rfl (WS.off rfl (WS.off rfl (WS.off rfl (WS.off rfl (C rfl rfl ?_)))))))))
     refine C rfl rfl (WS.off rfl (WS.off rfl (WS.off rfl (WS.off rfl (C rfl rfl (U [(1, _), (2, _), (3, _), (4, _), (9, _), (10, _), (11, _), (43, _)] rfl ?_))))))
     refine WC.condF rfl (WC.skip (AX (C rfl rfl (WS.opV (.int .i64 (((i + 1) : Nat) : Int)) rfl rfl (add_i64 (a := i) (b := 1) (by omega)) (C rfl rfl (U [(1, _), (2, _), (3, _), (4, _), (9, _), (10, _)] rfl ?_))))))
     refine ⟨(V_, S_, out, i + 1), rfl, ⟨(((M13.bare.focus 2 rfl).focus 2 rfl).take 2), ?_⟩, ?_⟩
     · exact ⟨hO_, rr_skip hE hy22 (by first | exact Or.inr (by omega) | (left; unfold ok2 okTo; simp_all)), by omega⟩
     · simp only []; omega
   ·
    refine U [(1, _), (2, _), (3, _), (4, _), (9, _), (10, _), (16, _)] rfl ?_
    refine WC.condF rfl (WC.exit ?_)
    refine AQ (AX (C rfl rfl (C rfl rfl (U [(8, _)] rfl ?_))))
    refine WC.ret (⟨[_], (res_tmp rfl res_nil), ?_⟩)
    have e9 : F.take i = F := List.take_of_length_le (by omega)
    rw [e9, ← rangeF_ok2] at hE
    rw [hE] at hO_
    exact ⟨S_, hO_, ((M8.bare.focus 0 rfl).take 1)⟩
set_option maxRecDepth 8000 in
theorem rWrite_ran (W : Mem h h [] []) {V : Value} {s : KS} (A : KIt.Sl h V s.F) (hok : KOk s) (hl : s.F.length ≤ 800000) (hv : s.v < 18446744073709551616) : Cll tab0 24 [.agg #[V, .int .i64 (s.K : Int), .int .i64 (s.M : Int), .int .u64 (s.v : Int)]] h (fun u h2 => u = .string (bs (wrK s)) ∧ Mem h h2 [] []) := by
  obtain ⟨Pl, nl, rfl⟩ := A.shape
  have hm2 : szF s.F ≤ 2147483647 := Nat.le_trans hok.sz hok.M
  have hK : s.K ≤ 2147483647 := hok.K
  have hMx : s.M ≤ 2147483647 := hok.M
  refine Cll.code rfl rfl ?_
  refine WC.env [(0, _)] rfl ?_
  refine AQ (AX (WS.box W [_, _, _, _] rfl rfl rfl rfl ?_))
  intro p1 h2 M3
  refine C rfl rfl (U [(1, _)] rfl ?_)
  refine AQ (AX (C rfl rfl (C rfl (op_ld (M3.at 0 rfl) rfl rfl) (WS.opV (.int .u64 ((s.K : Nat) : Int)) rfl rfl (cv_u64 (n := s.K) (by omega)) (C rfl rfl (C rfl (op_ld (M3.at 0 rfl) rfl rfl) (WS.opV (.int .u64 ((s.M : Nat) : Int)) rfl rfl (cv_u64 (n := s.M) (by omega)) (C rfl rfl (C rfl (op_ld (M3.at 0 rfl) rfl rfl) (C rfl rfl (C rfl (op_ld (M3.at 0 rfl) rfl rfl) ?_)))))))))))
  refine C rfl (op_lenVS A rfl) (WS.opV (.int .u64 (((s.F).length : Nat) : Int)) rfl rfl (cv_u64 (n := (s.F).length) (by omega)) ?_)
  refine WS.bsl M3 [_, _, _, _] rfl rfl rfl rfl ?_
  intro p4 h5 M6
  refine WS.call rfl rfl rfl (ref_V_ran M6.here (Row.Sl.own (K := KNat) (l := [s.K, s.M, s.v, (s.F).length]) (M6.at 0 rfl)) (by intro n hn; simp only [List.mem_cons, List.mem_nil_iff, or_false] at hn; omega) (by simp) (r := ((vb s.K) ++ (vb s.M) ++ (vb s.v) ++ (vb ((s.F).length)))) (by simp [List.flatMap])) ?_
  rintro _ h7 ⟨rfl, N8⟩
  have M9 := M6.trans N8
  refine C rfl rfl (U [(1, _), (3, _)] rfl ?_)
  refine AQ (AQ (AX (C rfl rfl (U [(1, _), (3, _), (4, _)] rfl ?_))))
  refine WC.block ?_
  obtain ⟨L10, eL12, M11⟩ := Mem.name M9.bare
  refine WC.loop (σ := List UInt8 × Nat) (fun ((out, i)) => [(1, (.pointer (some ⟨p1, 0, none⟩))), (3, (.string (bs out))), (4, (.int .i64 ((i : Nat) : Int)))]) (fun ((out, i)) hh => Mem h hh (L10) [] ∧ out = (vb s.K ++ vb s.M ++ vb s.v ++ vb s.F.length) ++ (s.F.take i).flatMap rowW ∧ i ≤ s.F.length) (fun ((out, i)) => s.F.length - i) (((vb s.K) ++ (vb s.M) ++ (vb s.v) ++ (vb ((s.F).length))), 0) rfl ⟨M11, ?_⟩ ?_
  · exact ⟨by simp, by omega⟩
  ·rintro ⟨out, i⟩ h13 ⟨M14, ⟨hE, hi⟩⟩
   replace eL12 := eL12.symm; subst eL12
   refine WC.env [(1, _), (3, _), (4, _)] rfl ?_
   refine AQ (AQ (AX (C rfl rfl (C rfl rfl (C rfl (op_ld (M14.at 1 rfl) rfl rfl) (C rfl (op_lenVS A rfl) ?_))))))
   refine WS.lssN (a := i) (b := (s.F).length) rfl rfl rfl (fun e23 => ?_) (fun e23 => ?_)
   ·
    refine U [(1, _), (3, _), (4, _), (23, _)] rfl ?_
    refine WC.condT rfl (WC.skip (AQ (WC.block (WC.draw M14 [13, 28] rfl ?_))))
    intro rb15 h16 M17
    refine C rfl rfl (C rfl rfl (C rfl (op_ld (M17.at 1 rfl) rfl rfl) (C rfl rfl ?_)))
    obtain ⟨y30, hy30⟩ : ∃ y, (s.F)[i]? = some y := ⟨_, List.getElem?_eq_getElem (show i < (s.F).length by first | omega | (simp only [AZ, D, Y, G, J, X]; omega) | (simp only [AZ, D, Y, G, J, X] at *; omega))⟩
    refine WS.iaVS A i hy30 rfl rfl rfl rfl ?_
    intro b30_ o30_ ha30
    have hfl := flatMap_take_le s.F i rowW
    have hrl := rows_len hm2
    have hhl := head_len (a := s.K) (b := s.M) (c := s.v) (d := s.F.length) (by omega) (by omega) (by omega) (by omega)
    have hyl := szI_le (List.mem_of_getElem? hy30)
    simp only [szI] at hyl
    have hyv := UInt64.toNat_lt y30.vn
    have hyz := UInt64.toNat_lt y30.ls
    have hb1 := sb_len (t := y30.ky) (by omega)
    have hb2 := sb_len (t := y30.va) (by omega)
    have hb3 := vb_len hyv
    have hb4 := vb_len hyz
    have hol := congrArg List.length hE
    rw [Y] at hol
    refine C rfl rfl (C rfl (op_ldH rfl (At.ld0 (ha30.mono M17.sub) rfl)) (C rfl rfl (C rfl (op_ld (M17.at 1 rfl) rfl rfl) (C rfl rfl ?_))))
    refine WS.iaVS A i hy30 rfl rfl rfl rfl ?_
    intro b36_ o36_ ha36
    refine C rfl rfl (C rfl (op_ldH rfl (At.ld (k := 1) (ha36.mono M17.sub) rfl)) (C rfl rfl (C rfl (op_ld (M17.at 1 rfl) rfl rfl) (C rfl rfl ?_))))
    refine WS.iaVS A i hy30 rfl rfl rfl rfl ?_
    intro b45_ o45_ ha45
    refine C rfl rfl (C rfl (op_ldH rfl (At.ld (k := 2) (ha45.mono M17.sub) rfl)) (C rfl rfl (C rfl (op_ld (M17.at 1 rfl) rfl rfl) (C rfl rfl ?_))))
    refine WS.iaVS A i hy30 rfl rfl rfl rfl ?_
    intro b51_ o51_ ha51
    refine C rfl rfl (C rfl (op_ldH rfl (At.ld (k := 3) (ha51.mono M17.sub) rfl)) ?_)
    refine WS.bslA M17 [_, _] 0 rfl rfl rfl rfl rfl ?_
    intro h19 M20
    refine WS.call rfl rfl rfl (ref_S_ran M20.here (Row.Sl.own (K := KStr) (l := [y30.ky, y30.va]) (M20.at 0 rfl)) (by simp only [List.map_cons, List.map_nil, List.sum_cons, List.sum_nil, G, J]; omega) (r := ((sb y30.ky) ++ (sb y30.va))) (by simp [List.flatMap])) ?_
    rintro _ h21 ⟨rfl, N22⟩
    have M23 := M20.trans N22
    refine WS.chk rfl (op_ld (M23.at 2 rfl) rfl rfl) rfl (same_sl _ _ _) (WS.chk rfl (op_ldH rfl (At.ld (k := 2) (ha45.mono M23.sub) rfl)) rfl (sameV_refl rfl) (WS.chk rfl (op_ld (M23.at 2 rfl) rfl rfl) rfl (same_sl _ _ _) (WS.chk rfl (op_ldH rfl (At.ld (k := 3) (ha51.mono M23.sub) rfl)) rfl (sameV_refl rfl) (C rfl (op_sadd (l := out) (m := ((sb y30.ky) ++ (sb y30.va))) rfl rfl (by first | omega | (simp only [AZ, D, Y, G, J, X]; omega) | (simp only [AZ, D, Y, G, J, X] at *; omega))) ?_))))
    refine WS.bslA M23 [_, _] 0 rfl rfl rfl rfl rfl ?_
    intro h25 M26
    refine WS.call rfl rfl rfl (ref_V_ran M26.here (Row.Sl.own (K := KNat) (l := [(y30.vn).toNat, (y30.ls).toNat]) (M26.at 0 rfl)) (by intro n hn; simp only [List.mem_cons, List.mem_nil_iff, or_false] at hn; omega) (by simp) (r := ((vb ((y30.vn).toNat)) ++ (vb ((y30.ls).toNat)))) (by simp [List.flatMap])) ?_
    rintro _ h27 ⟨rfl, N28⟩
    have M29 := M26.trans N28
    refine C rfl (op_sadd (l := (out ++ ((sb y30.ky) ++ (sb y30.va)))) (m := ((vb ((y30.vn).toNat)) ++ (vb ((y30.ls).toNat)))) rfl rfl (by first | omega | (simp only [AZ, D, Y, G, J, X]; omega) | (simp only [AZ, D, Y, G, J, X] at *; omega))) (C rfl rfl (U [(1, _), (3, _), (4, _)] rfl ?_))
    refine AX (C rfl rfl (WS.opV (.int .i64 (((i + 1) : Nat) : Int)) rfl rfl (add_i64 (a := i) (b := 1) (by omega)) (C rfl rfl (U [(1, _), (3, _), (4, _)] rfl ?_))))
    refine ⟨(((out ++ ((sb y30.ky) ++ (sb y30.va))) ++ ((vb ((y30.vn).toNat)) ++ (vb ((y30.ls).toNat)))), i + 1), rfl, ⟨(((M29.bare.bare.focus 3 rfl).focus 3 rfl).take 2), ?_⟩, ?_⟩
    · exact ⟨by rw [hE, flatMap_take_succ rowW hy30]; simp [rowW], by omega⟩
    · simp only []; omega
   ·
    refine U [(1, _), (3, _), (4, _), (23, _)] rfl ?_
    refine WC.condF rfl (WC.exit ?_)
    refine AQ (AX (C rfl rfl (C rfl rfl (U [(2, _)] rfl ?_))))
    refine WC.ret (⟨[_], (res_tmp rfl res_nil), ?_⟩)
    have e : wrK s = out := by rw [hE, List.take_of_length_le (by omega)]; rfl
    rw [e]
    exact ⟨rfl, M14.bare.take 0⟩
end Go.Proofs.Ytkfjlbdedjoojaa.Wt
namespace Go.Proofs.Ytkfjlbdedjoojaa.Wt
open Go Go.Proofs.Ytkfjlbdedjoojaa.Am Go.Proofs.Ytkfjlbdedjoojaa.IrAll
open Nat renaming le_of_ble_eq_true → C
open Go.Proofs.Ytkfjlbdedjoojaa.Am.WS renaming op → D
open Go.Proofs.Ytkfjlbdedjoojaa.Am.WS renaming nil → G
open List renaming length_append → J
open List renaming length_cons → U
open Go.Proofs.Ytkfjlbdedjoojaa.Am.WC renaming seq → X
open Go.Proofs.Ytkfjlbdedjoojaa.Am.WC renaming run → Y
open List renaming length_nil → AQ
set_option linter.unusedVariables false
set_option linter.unusedSimpArgs false
variable {h base h2 : H} {L : List Seg} {R : List Nat}
def OutR (V V' : Value) (F F' : List It) (S : Seg) : Prop := (V' = V ∧ F' = F ∧ S = []) ∨ KIt.Own V' F' S
theorem OutR.sl {V V' : Value} {F F' : List It} {S : Seg} (r : OutR V V' F F' S) (A : KIt.Sl h V F) (M : ∀ p ∈ S, h.get p.1 = some p.2) : KIt.Sl h V' F' := by
  rcases r with ⟨rfl, rfl, _⟩ | O
  · exact A
  · exact O.sl M
theorem OutR.shape {V V' : Value} {F F' : List It} {S : Seg} (r : OutR V V' F F' S) (A : KIt.Sl h V F) : ∃ P c, V' = .slice P F'.length c := by
  rcases r with ⟨rfl, rfl, _⟩ | O
  · exact A.shape
  · obtain ⟨P, e⟩ := O.shape; exact ⟨P, _, e⟩
theorem OutR.step {V0 V1 V2 : Value} {F0 F1 F2 : List It} {S1 S2 : Seg} (r1 : OutR V0 V1 F0 F1 S1) (r2 : OutR V1 V2 F1 F2 S2) (M : Mem base h (S2 :: S1 :: L) []) : ∃ S, OutR V0 V2 F0 F2 S ∧ Mem base h (S :: L) [] := by
  rcases r2 with ⟨rfl, rfl, rfl⟩ | O
  · exact ⟨S1, r1, M.drop⟩
  · exact ⟨S2, .inr O, (M.focus 1 rfl).drop⟩
theorem OutR.own {V1 V2 : Value} {F1 F2 : List It} {S1 S2 : Seg} (r1 : KIt.Own V1 F1 S1) (r2 : OutR V1 V2 F1 F2 S2) (M : Mem base h (S2 :: S1 :: L) []) : ∃ S, KIt.Own V2 F2 S ∧ Mem base h (S :: L) [] := by
  rcases r2 with ⟨rfl, rfl, rfl⟩ | O
  · exact ⟨S1, r1, M.drop⟩
  · exact ⟨S2, O, (M.focus 1 rfl).drop⟩
theorem rheld_ran (W : Mem h h [] []) {z : Int} : Cll tab0 39 [.int .i64 z] h (fun v h2 => v = .int .i64 ((heldK z : Nat) : Int) ∧ Mem h h2 [] []) := by
  refine Cll.code rfl rfl ?_
  refine WC.env [(0, _)] rfl ?_
  refine X (Y (D rfl rfl (G [(0, _)] rfl ?_)))
  refine X (X (Y (D rfl rfl ?_)))
  refine WS.lss (a := z) (b := (0 : Int)) rfl rfl rfl (fun e4 => ?_) (fun e4 => ?_)
  ·
   refine G [(0, _), (4, _)] rfl ?_
   refine WC.condT rfl (X (Y (D rfl rfl (G [(2, _)] rfl ?_))))
   refine WC.ret (⟨[_], (res_tmp rfl res_nil), ?_⟩)
   refine ⟨?_, W.bare.take 0⟩
   show Value.int .i64 _ = Value.int .i64 _
   congr 1
   unfold heldK
   omega
  ·
   refine G [(0, _), (4, _)] rfl ?_
   refine WC.condF rfl (WC.skip (X (X (Y (D rfl rfl ?_)))))
   refine WS.gtr (a := z) (b := (2147483647 : Int)) rfl rfl rfl (fun e6 => ?_) (fun e6 => ?_)
   ·
    refine G [(0, _), (6, _)] rfl ?_
    refine WC.condT rfl (X (Y (D rfl rfl (G [(2, _)] rfl ?_))))
    refine WC.ret (⟨[_], (res_tmp rfl res_nil), ?_⟩)
    refine ⟨?_, W.bare.take 0⟩
    show Value.int .i64 _ = Value.int .i64 _
    congr 1
    unfold heldK
    omega
   ·
    refine G [(0, _), (6, _)] rfl ?_
    refine WC.condF rfl (WC.skip (X (Y (D rfl rfl (D rfl rfl (G [(2, _)] rfl ?_))))))
    refine WC.ret (⟨[_], (res_tmp rfl res_nil), ?_⟩)
    refine ⟨?_, W.bare.take 0⟩
    show Value.int .i64 _ = Value.int .i64 _
    congr 1
    unfold heldK
    omega
theorem rNew_ran (W : Mem h h [] []) {z1 z2 : Int} : Cll tab0 19 [.int .i64 z1, .int .i64 z2] h (fun v h2 => v = .agg #[.slice none 0 0, .int .i64 ((heldK z1 : Nat) : Int), .int .i64 ((heldK z2 : Nat) : Int), .int .u64 0] ∧ Mem h h2 [] []) := by
  refine Cll.code rfl rfl ?_
  refine WC.env [(0, _), (1, _)] rfl ?_
  refine X (Y (WS.new W rfl ?_))
  intro p1 h2 M3
  refine G [(0, _), (1, _), (4, _)] rfl ?_
  refine X (Y (D rfl rfl ?_))
  refine WS.call rfl rfl rfl (rheld_ran M3.here ) ?_
  rintro _ h4 ⟨rfl, N5⟩
  have M6 := M3.trans N5
  refine D rfl rfl ?_
  refine WS.call rfl rfl rfl (rheld_ran M6.here ) ?_
  rintro _ h7 ⟨rfl, N8⟩
  have M9 := M6.trans N8
  refine WS.opV (.agg #[(.slice none 0 0), (.int .i64 (((heldK z1) : Nat) : Int)), (.int .i64 (((heldK z2) : Nat) : Int)), (.int .u64 (0 : Int))]) rfl rfl rfl ?_
  refine WS.st1 (M9.focus 0 rfl) [_, _, _, _] [_, _, _, _] rfl rfl rfl rfl rfl (C rfl) (C rfl) rfl rfl ?_
  intro h10 M11
  replace M11 : Mem _ _ ([(p1, _)] :: []) _ := M11
  refine G [(4, _)] rfl ?_
  refine WC.ret (⟨[_], (res_cellN [_, _, _, _] rfl (M11.at 0 rfl) (C rfl) rfl res_nil), ?_⟩)
  exact ⟨rfl, M11.bare.take 0⟩
def PgI (l : List It) (it : It) (i : Nat) (dn : Bool) (pg : List It) : Prop := i ≤ l.length ∧ (dn = false → (∀ x ∈ l.take i, kL x.ky it.ky) ∧ pg = l.take i) ∧ (dn = true → pg = putF (l.take i) it ∧ ∃ x ∈ l.take i, ¬ kL x.ky it.ky)
theorem pgi_zero (l : List It) (it : It) : PgI l it 0 false [] := ⟨Nat.zero_le _, fun _ => ⟨fun x hx => by simp at hx, by simp⟩, fun q => by cases q⟩
theorem takeI_snoc {l : List It} {i : Nat} {x : It} (hx : l[i]? = some x) : l.take (i + 1) = l.take i ++ [x] := by rw [List.take_add_one, hx]; rfl
theorem put_low {l : List It} {it : It} (h : ∀ x ∈ l, kL x.ky it.ky) : putF l it = l ++ [it] := by
  unfold putF; rw [(filter_lt_A h).1, (filter_lt_A h).2]
theorem put_snoc {l : List It} {it x : It} : putF (l ++ [x]) it = if kL x.ky it.ky then l.filter (fun x => decide (kL x.ky it.ky)) ++ (x :: it :: l.filter (fun x => decide (kL it.ky x.ky))) else if kL it.ky x.ky then putF l it ++ [x] else putF l it := by
  unfold putF
  simp only [List.filter_append, List.filter_cons, List.filter_nil]
  by_cases c : kL x.ky it.ky
  · rw [if_pos c, if_pos (by simpa using c), if_neg (by simpa using kL_asym c)]; simp
  · rw [if_neg c, if_neg (by simpa using c)]
    by_cases d : kL it.ky x.ky
    · rw [if_pos d, if_pos (by simpa using d)]; simp
    · rw [if_neg d, if_neg (by simpa using d)]; simp
theorem putF_len' {l : List It} {it : It} : (putF l it).length ≤ l.length + 1 := by
  have h1 : (l.filter (fun x => decide (kL x.ky it.ky))).length + (l.filter (fun x => decide (kL it.ky x.ky))).length ≤ l.length := by
    induction l with
    | nil => simp
    | cons x g ih =>
      simp only [List.filter_cons]
      by_cases c1 : kL x.ky it.ky
      · rw [if_pos (by simpa using c1), if_neg (by simpa using kL_asym c1)]; simp only [U]; omega
      · rw [if_neg (by simpa using c1)]
        split <;> simp only [U] <;> omega
  unfold putF; simp only [J, U]; omega
theorem pgi_len {l pg : List It} {it : It} {i : Nat} {dn : Bool} (h : PgI l it i dn pg) : pg.length ≤ l.length + 1 := by
  cases dn with
  | false => rw [(h.2.1 rfl).2, List.length_take]; omega
  | true => rw [(h.2.2 rfl).1]; have := putF_len' (l := l.take i) (it := it); rw [List.length_take] at this; omega
theorem pgi_low {l pg : List It} {it x : It} {i : Nat} (h : PgI l it i false pg) (hx : l[i]? = some x) (c : kL x.ky it.ky) : PgI l it (i + 1) false (pg ++ [x]) := by
  obtain ⟨h1, h2, h3⟩ := h
  refine ⟨by have := (List.getElem?_eq_some_iff.1 hx).1; omega, fun _ => ⟨fun z hz => ?_, by rw [takeI_snoc hx, (h2 rfl).2]⟩, fun q => by cases q⟩
  rw [takeI_snoc hx] at hz
  rcases List.mem_append.1 hz with q | q
  · exact (h2 rfl).1 z q
  · rw [List.mem_singleton] at q; subst q; exact c
theorem pgi_new {l pg : List It} {it x : It} {i : Nat} (h : PgI l it i false pg) (hx : l[i]? = some x) (c : ¬ kL x.ky it.ky) (d : x.ky ≠ it.ky) : PgI l it (i + 1) true ((pg ++ [it]) ++ [x]) := by
  obtain ⟨h1, h2, h3⟩ := h
  refine ⟨by have := (List.getElem?_eq_some_iff.1 hx).1; omega, fun q => (by cases q), fun _ => ⟨?_, x, by rw [takeI_snoc hx]; simp, c⟩⟩
  rw [takeI_snoc hx, put_snoc, if_neg c, if_pos (Classical.byContradiction fun q => d (kL_tot c q)), put_low (h2 rfl).1, (h2 rfl).2]
theorem pgi_gt {l pg : List It} {it x : It} {i : Nat} (hs : SrtI l) (h : PgI l it i true pg) (hx : l[i]? = some x) : kL it.ky x.ky := by
  obtain ⟨z, hz, q⟩ := (h.2.2 rfl).2
  obtain ⟨k, hk, rfl⟩ := List.getElem_of_mem hz
  rw [List.length_take] at hk
  rw [List.getElem_take] at q
  exact kL_le_lt q (srt_get hs (i := k) (j := i) (by omega) (List.getElem?_eq_getElem (by omega)) hx)
theorem pgi_hi {l pg : List It} {it x : It} {i : Nat} (hs : SrtI l) (h : PgI l it i true pg) (hx : l[i]? = some x) : PgI l it (i + 1) true (pg ++ [x]) := by
  have hk := pgi_gt hs h hx
  obtain ⟨h1, h2, h3⟩ := h
  obtain ⟨z, hz, q⟩ := (h3 rfl).2
  refine ⟨by have := (List.getElem?_eq_some_iff.1 hx).1; omega, fun q => (by cases q), fun _ => ⟨?_, z, by rw [takeI_snoc hx]; exact List.mem_append_left _ hz, q⟩⟩
  rw [takeI_snoc hx, put_snoc, if_neg (kL_asym hk), if_pos hk, (h3 rfl).1]
theorem pgi_end {l pg : List It} {it : It} {i : Nat} {dn : Bool} (h : PgI l it i dn pg) (hi : l.length ≤ i) : (if dn = true then pg else pg ++ [it]) = putF l it := by
  have e : l.take i = l := List.take_of_length_le hi
  obtain ⟨h1, h2, h3⟩ := h
  rw [e] at h2 h3
  cases dn with
  | true => rw [if_pos rfl]; exact (h3 rfl).1
  | false => rw [if_neg (by decide), put_low (h2 rfl).1, (h2 rfl).2]
theorem del_mem {F : List It} {key : List UInt8} {i : Nat} {y : It} (hy : (delF F key)[i]? = some y) : y.ky ≠ key := by
  have := (List.mem_filter.1 (show y ∈ F.filter (fun x => decide (x.ky ≠ key)) from List.mem_of_getElem? hy)).2
  simpa using this
theorem put_del {F : List It} {it : It} : putF (delF F it.ky) it = putF F it := by
  unfold putF delF
  rw [List.filter_filter, List.filter_filter]
  congr 2
  · funext x
    by_cases c : x.ky = it.ky
    · rw [decide_eq_false (p := x.ky ≠ it.ky) (fun q => q c), Bool.and_false, decide_eq_false (by rw [c]; exact kL_irr)]
    · rw [decide_eq_true (p := x.ky ≠ it.ky) c, Bool.and_true]
  · congr 2
    funext x
    by_cases c : x.ky = it.ky
    · rw [decide_eq_false (p := x.ky ≠ it.ky) (fun q => q c), Bool.and_false, decide_eq_false (by rw [c]; exact kL_irr)]
    · rw [decide_eq_true (p := x.ky ≠ it.ky) c, Bool.and_true]
set_option maxRecDepth 8000 in
set_option maxHeartbeats 2000000 in
theorem rPut_ran (W : Mem h h [] []) {V : Value} {s : KS} {key val : List UInt8} {ls : UInt64} (A : KIt.Sl h V s.F) (hok : KOk s) (hl : s.F.length ≤ 800000) (hk : key.length ≤ 1000000) (hvl : val.length ≤ 1000000) (hv : s.v < 18446744073709551615) : Cll tab0 40 [.agg #[V, .int .i64 (s.K : Int), .int .i64 (s.M : Int), .int .u64 (s.v : Int)], .string (bs key), .string (bs val), .int .u64 (ls.toNat : Int)] h (fun u h2 => ∃ V' S, u = .tuple #[.agg #[V', .int .i64 ((putK s key val ls).1.K : Int), .int .i64 ((putK s key val ls).1.M : Int), .int .u64 ((putK s key val ls).1.v : Int)], .int .u8 (((putK s key val ls).2 : Nat) : Int)] ∧ OutR V V' s.F (putK s key val ls).1.F S ∧ Mem h h2 [S] []) := by
  obtain ⟨Pl, nl, rfl⟩ := A.shape
  have hm2 : szF s.F ≤ 2147483647 := Nat.le_trans hok.sz hok.M
  have hK : s.K ≤ 2147483647 := hok.K
  have hMx : s.M ≤ 2147483647 := hok.M
  have hle := hok.len
  have hdl : (delF s.F key).length ≤ s.F.length := List.length_filter_le ..
  have hds : SrtI (delF s.F key) := srt_filter hok.srt _
  have hch := cost_hi (F := s.F) (key := key) (val := val)
  have hlc : (putF s.F (⟨key, val, UInt64.ofNat (s.v + 1), ls⟩ : It)).length = s.F.length + (costK s.F key val).1 := len_cost (it := ⟨key, val, UInt64.ofNat (s.v + 1), ls⟩) hok.srt
  have hzc : ((szF (putF s.F (⟨key, val, UInt64.ofNat (s.v + 1), ls⟩ : It)) : Nat) : Int) = (szF s.F : Nat) + (costK s.F key val).2 := sz_cost (it := ⟨key, val, UInt64.ofNat (s.v + 1), ls⟩) hok.srt
  refine Cll.code rfl rfl ?_
  refine WC.env [(0, _), (1, _), (2, _), (3, _)] rfl ?_
  refine X (Y (WS.box W [_, _, _, _] rfl rfl rfl rfl ?_))
  intro p1 h2 M3
  refine WS.new M3 rfl ?_
  intro p4 h5 M6
  refine D rfl rfl (G [(1, _), (2, _), (3, _), (4, _), (8, _)] rfl ?_)
  refine X (Y (D rfl rfl (G [(1, _), (2, _), (3, _), (4, _), (8, _), (10, _)] rfl ?_)))
  refine X (Y (D rfl rfl (G [(1, _), (2, _), (3, _), (4, _), (8, _), (10, _), (11, _)] rfl ?_)))
  refine X (Y (D rfl rfl (D rfl rfl (D rfl rfl (D rfl (op_ld (M6.at 1 rfl) rfl rfl) (WS.opV (.int .u64 ((UInt64.ofNat (s.v + 1)).toNat : Int)) rfl rfl ((add_u64 (a := s.v) (b := 1) (by omega)).trans (u64_ofNat (n := s.v + 1) (by omega))) (D rfl rfl (WS.opV (.agg #[(.string (bs key)), (.string (bs val)), (.int .u64 (((UInt64.ofNat (s.v + 1)).toNat : Nat) : Int)), (.int .u64 (((ls).toNat : Nat) : Int))]) rfl rfl rfl ?_))))))))
  refine WS.new M6 rfl ?_
  intro p7 h8 M9
  refine WS.st1 (M9.focus 0 rfl) [_, _, _, _] [_, _, _, _] rfl rfl rfl rfl rfl (C rfl) (C rfl) rfl rfl ?_
  intro h10 M11
  replace M11 : Mem _ _ ([(p7, _)] :: [(p4, _)] :: [(p1, _)] :: []) _ := M11
  refine G [(1, _), (4, _), (8, _), (10, _), (11, _), (12, _)] rfl ?_
  refine X (Y (D rfl rfl (D rfl (op_ld (M11.at 2 rfl) rfl rfl) (D rfl rfl ?_))))
  refine WS.call rfl rfl rfl (without_ran M11.here (key := key) (A.mono M11.sub) (by omega)) ?_
  rintro V15 h12 ⟨S16, O17, N13⟩
  obtain ⟨P18, rfl⟩ := O17.shape
  have M14 := M11.trans N13
  replace M14 : Mem _ _ (S16 :: [(p7, _)] :: [(p4, _)] :: [(p1, _)] :: []) _ := M14
  refine D rfl rfl (G [(1, _), (4, _), (8, _), (10, _), (11, _), (12, _), (13, _)] rfl ?_)
  refine X (X (Y (D rfl rfl (G [(1, _), (4, _), (8, _), (10, _), (11, _), (12, _), (13, _), (14, _)] rfl ?_))))
  refine WC.block ?_
  obtain ⟨L19, eL21, M20⟩ := Mem.name1 ((M14.bare).nils)
  refine WC.loop (σ := Option Addr × Seg × List It × Bool × Nat) (fun ((P_, S_, pg, dn, i)) => [(1, (.string (bs key))), (4, (.pointer (some ⟨p1, 0, none⟩))), (8, (.pointer (some ⟨p4, 0, none⟩))), (10, (.slice P_ pg.length (2 * pg.length))), (11, (.bool dn)), (12, (.pointer (some ⟨p7, 0, none⟩))), (13, (.slice P18 (delF s.F key).length (2 * (delF s.F key).length))), (14, (.int .i64 ((i : Nat) : Int)))]) (fun ((P_, S_, pg, dn, i)) hh => Mem h hh (S_ :: L19) [] ∧ KIt.Own (.slice P_ pg.length (2 * pg.length)) pg S_ ∧ PgI (delF s.F key) (⟨key, val, UInt64.ofNat (s.v + 1), ls⟩ : It) i dn pg) (fun ((P_, S_, pg, dn, i)) => (delF s.F key).length - i) (none, _, [], false, 0) rfl ⟨M20, ?_⟩ ?_
  · exact ⟨.nil, pgi_zero _ _⟩
  ·rintro ⟨P_, S_, pg, dn, i⟩ h22 ⟨M23, ⟨hO_, hP⟩⟩
   replace eL21 := eL21.symm; subst eL21
   refine WC.env [(1, _), (4, _), (8, _), (10, _), (11, _), (12, _), (13, _), (14, _)] rfl ?_
   have hi := hP.1
   refine X (X (Y (D rfl rfl (D rfl rfl (D rfl (op_lenVO O17 rfl) ?_)))))
   refine WS.lssN (a := i) (b := ((delF s.F key)).length) rfl rfl rfl (fun e29 => ?_) (fun e29 => ?_)
   ·
    refine G [(1, _), (4, _), (8, _), (10, _), (11, _), (12, _), (13, _), (14, _), (29, _)] rfl ?_
    refine WC.condT rfl (WC.skip (X (WC.block (X (X (Y (D rfl rfl ?_)))))))
    cases dn
    ·
     refine WS.opV (.bool true) rfl rfl rfl (D rfl rfl (D rfl rfl (D rfl rfl ?_)))
     obtain ⟨y37, hy37⟩ : ∃ y, ((delF s.F key))[i]? = some y := ⟨_, List.getElem?_eq_getElem (show i < ((delF s.F key)).length by first | omega | (simp only [List.length_drop, List.length_take, J, U, AQ, List.length_singleton]; omega) | (simp only [List.length_drop, List.length_take, J, U, AQ, List.length_singleton] at *; omega))⟩
     refine WS.iaVS (Row.Own.sl O17 (Mem.owni M23 1 rfl)) i hy37 rfl rfl rfl rfl ?_
     intro b37_ o37_ ha37
     refine D rfl rfl (D rfl (op_ldH rfl (At.ld0 ha37 rfl)) (D rfl rfl ?_))
     refine WS.sgtr (l := y37.ky) (m := key) rfl rfl rfl (fun e41 => ?_) (fun e41 => ?_)
     ·
      refine D rfl rfl (G [(1, _), (4, _), (8, _), (10, _), (11, _), (12, _), (13, _), (14, _), (42, _)] rfl ?_)
      refine WC.condT rfl (X (Y (D rfl rfl (D rfl (op_lds [_, _, _, _] (M23.at 2 rfl) rfl (C rfl) rfl) ?_))))
      refine WS.bsl M23 [_, _, _, _] rfl rfl rfl rfl ?_
      intro p24 h25 M26
      refine WS.app (l := pg) (m := [(⟨key, val, (UInt64.ofNat (s.v + 1)), ls⟩ : It)]) (hO_) (M26.focus 1 rfl) (Row.Src.one (K := KIt) (m := [(⟨key, val, (UInt64.ofNat (s.v + 1)), ls⟩ : It)]) (M26.at 0 rfl)) rfl (by have := pgi_len hP; simp only [J, U, AQ]; omega) (by have := pgi_len hP; simp only [J, U, AQ]; omega) rfl rfl rfl ?_
      intro V27 S28 h29 O30 M31
      obtain ⟨P32, rfl⟩ := Row.Own.shape O30
      refine D rfl rfl (G [(1, _), (4, _), (8, _), (10, _), (12, _), (13, _), (14, _)] rfl ?_)
      refine Y (D rfl rfl (G [(1, _), (4, _), (8, _), (10, _), (11, _), (12, _), (13, _), (14, _)] rfl ?_))
      refine Y (D rfl rfl (D rfl rfl (D rfl rfl ?_)))
      refine WS.iaVS (Row.Own.sl O17 (Mem.owni M31 2 rfl)) i hy37 rfl rfl rfl rfl ?_
      intro b50_ o50_ ha50
      refine D rfl (op_ldAt rfl ha50 rfl) ?_
      refine WS.bsl M31 [_, _, _, _] rfl rfl rfl rfl ?_
      intro p33 h34 M35
      refine WS.app (l := (pg ++ [(⟨key, val, (UInt64.ofNat (s.v + 1)), ls⟩ : It)])) (m := [y37]) (O30) (M35.focus 1 rfl) (Row.Src.one (K := KIt) (m := [y37]) (M35.at 0 rfl)) rfl (by have := pgi_len hP; simp only [J, U, AQ]; omega) (by have := pgi_len hP; simp only [J, U, AQ]; omega) rfl rfl rfl ?_
      intro V36 S37 h38 O39 M40
      obtain ⟨P41, rfl⟩ := Row.Own.shape O39
      refine D rfl rfl (G [(1, _), (4, _), (8, _), (10, _), (11, _), (12, _), (13, _), (14, _)] rfl ?_)
      refine Y (D rfl rfl (WS.opV (.int .i64 (((i + 1) : Nat) : Int)) rfl rfl (add_i64 (a := i) (b := 1) (by omega)) (D rfl rfl (G [(1, _), (4, _), (8, _), (10, _), (11, _), (12, _), (13, _), (14, _)] rfl ?_))))
      refine ⟨(P41, S37, ((pg ++ [(⟨key, val, (UInt64.ofNat (s.v + 1)), ls⟩ : It)]) ++ [y37]), true, i + 1), rfl, ⟨((((((M40.bare.focus 6 rfl).focus 6 rfl).focus 6 rfl).focus 6 rfl).focus 4 rfl).take 5), ?_⟩, ?_⟩
      · exact ⟨O39, by first | exact pgi_hi hds hP (by assumption) | exact pgi_new hP (by assumption) (kL_asym e41) (del_mem (by assumption)) | exact pgi_low hP (by assumption) (Classical.byContradiction fun q => del_mem (by assumption) (kL_tot q e41))⟩
      · simp only []; omega
     ·
      refine D rfl rfl (G [(1, _), (4, _), (8, _), (10, _), (11, _), (12, _), (13, _), (14, _), (42, _)] rfl ?_)
      refine WC.condF rfl (WC.skip (Y (D rfl rfl (D rfl rfl (D rfl rfl ?_)))))
      refine WS.iaVS (Row.Own.sl O17 (Mem.owni M23 1 rfl)) i hy37 rfl rfl rfl rfl ?_
      intro b50_ o50_ ha50
      refine D rfl (op_ldAt rfl ha50 rfl) ?_
      refine WS.bsl M23 [_, _, _, _] rfl rfl rfl rfl ?_
      intro p42 h43 M44
      refine WS.app (l := pg) (m := [y37]) (hO_) (M44.focus 1 rfl) (Row.Src.one (K := KIt) (m := [y37]) (M44.at 0 rfl)) rfl (by have := pgi_len hP; simp only [J, U, AQ]; omega) (by have := pgi_len hP; simp only [J, U, AQ]; omega) rfl rfl rfl ?_
      intro V45 S46 h47 O48 M49
      obtain ⟨P50, rfl⟩ := Row.Own.shape O48
      refine D rfl rfl (G [(1, _), (4, _), (8, _), (10, _), (11, _), (12, _), (13, _), (14, _)] rfl ?_)
      refine Y (D rfl rfl (WS.opV (.int .i64 (((i + 1) : Nat) : Int)) rfl rfl (add_i64 (a := i) (b := 1) (by omega)) (D rfl rfl (G [(1, _), (4, _), (8, _), (10, _), (11, _), (12, _), (13, _), (14, _)] rfl ?_))))
      refine ⟨(P50, S46, (pg ++ [y37]), false, i + 1), rfl, ⟨((((((M49.bare.focus 5 rfl).focus 5 rfl).focus 5 rfl).focus 5 rfl).focus 4 rfl).take 5), ?_⟩, ?_⟩
      · exact ⟨O48, by first | exact pgi_hi hds hP (by assumption) | exact pgi_new hP (by assumption) (kL_asym e41) (del_mem (by assumption)) | exact pgi_low hP (by assumption) (Classical.byContradiction fun q => del_mem (by assumption) (kL_tot q e41))⟩
      · simp only []; omega
    ·
     refine WS.opV (.bool false) rfl rfl rfl (D rfl rfl (WS.off rfl (WS.off rfl (WS.off rfl (WS.off rfl (WS.off rfl (WS.off rfl (WS.off rfl (D rfl rfl ?_)))))))))
     refine G [(1, _), (4, _), (8, _), (10, _), (11, _), (12, _), (13, _), (14, _), (42, _)] rfl ?_
     refine WC.condF rfl (WC.skip (Y (D rfl rfl (D rfl rfl (D rfl rfl ?_)))))
     obtain ⟨y50, hy50⟩ : ∃ y, ((delF s.F key))[i]? = some y := ⟨_, List.getElem?_eq_getElem (show i < ((delF s.F key)).length by first | omega | (simp only [List.length_drop, List.length_take, J, U, AQ, List.length_singleton]; omega) | (simp only [List.length_drop, List.length_take, J, U, AQ, List.length_singleton] at *; omega))⟩
     refine WS.iaVS (Row.Own.sl O17 (Mem.owni M23 1 rfl)) i hy50 rfl rfl rfl rfl ?_
     intro b50_ o50_ ha50
     refine D rfl (op_ldAt rfl ha50 rfl) ?_
     refine WS.bsl M23 [_, _, _, _] rfl rfl rfl rfl ?_
     intro p51 h52 M53
     refine WS.app (l := pg) (m := [y50]) (hO_) (M53.focus 1 rfl) (Row.Src.one (K := KIt) (m := [y50]) (M53.at 0 rfl)) rfl (by have := pgi_len hP; simp only [J, U, AQ]; omega) (by have := pgi_len hP; simp only [J, U, AQ]; omega) rfl rfl rfl ?_
     intro V54 S55 h56 O57 M58
     obtain ⟨P59, rfl⟩ := Row.Own.shape O57
     refine D rfl rfl (G [(1, _), (4, _), (8, _), (10, _), (11, _), (12, _), (13, _), (14, _)] rfl ?_)
     refine Y (D rfl rfl (WS.opV (.int .i64 (((i + 1) : Nat) : Int)) rfl rfl (add_i64 (a := i) (b := 1) (by omega)) (D rfl rfl (G [(1, _), (4, _), (8, _), (10, _), (11, _), (12, _), (13, _), (14, _)] rfl ?_))))
     refine ⟨(P59, S55, (pg ++ [y50]), true, i + 1), rfl, ⟨((((((M58.bare.focus 5 rfl).focus 5 rfl).focus 5 rfl).focus 5 rfl).focus 4 rfl).take 5), ?_⟩, ?_⟩
     · exact ⟨O57, by first | exact pgi_hi hds hP (by assumption) | exact pgi_new hP (by assumption) (kL_asym e41) (del_mem (by assumption)) | exact pgi_low hP (by assumption) (Classical.byContradiction fun q => del_mem (by assumption) (kL_tot q e41))⟩
     · simp only []; omega
   ·
    refine G [(1, _), (4, _), (8, _), (10, _), (11, _), (12, _), (13, _), (14, _), (29, _)] rfl ?_
    refine WC.condF rfl (WC.exit ?_)
    refine X (X (Y (D rfl rfl ?_)))
    cases dn
    ·
     refine WS.opV (.bool true) rfl rfl rfl (G [(4, _), (8, _), (10, _), (12, _), (55, _)] rfl ?_)
     refine WC.condT rfl (Y (D rfl rfl (D rfl (op_lds [_, _, _, _] (M23.at 2 rfl) rfl (C rfl) rfl) ?_)))
     refine WS.bsl M23 [_, _, _, _] rfl rfl rfl rfl ?_
     intro p60 h61 M62
     refine WS.app (l := pg) (m := [(⟨key, val, (UInt64.ofNat (s.v + 1)), ls⟩ : It)]) (hO_) (M62.focus 1 rfl) (Row.Src.one (K := KIt) (m := [(⟨key, val, (UInt64.ofNat (s.v + 1)), ls⟩ : It)]) (M62.at 0 rfl)) rfl (by have := pgi_len hP; simp only [J, U, AQ]; omega) (by have := pgi_len hP; simp only [J, U, AQ]; omega) rfl rfl rfl ?_
     intro V63 S64 h65 O66 M67
     obtain ⟨P68, rfl⟩ := Row.Own.shape O66
     refine D rfl rfl (G [(4, _), (8, _), (10, _)] rfl ?_)
     refine X (X (WC.draw M67 [] rfl ?_))
     intro rb69 h70 M71
     have hO9 : KIt.Own (.slice P68 ((pg ++ [(⟨key, val, (UInt64.ofNat (s.v + 1)), ls⟩ : It)])).length (2 * ((pg ++ [(⟨key, val, (UInt64.ofNat (s.v + 1)), ls⟩ : It)])).length)) (putF s.F (⟨key, val, UInt64.ofNat (s.v + 1), ls⟩ : It)) S64 := by have q := pgi_end hP (by omega); rw [put_del (it := (⟨key, val, UInt64.ofNat (s.v + 1), ls⟩ : It))] at q; rw [← q]; exact O66
     refine D rfl rfl (D rfl (op_lenVO hO9 rfl) (D rfl rfl (D rfl (op_ld (M71.at 5 rfl) rfl rfl) ?_)))
     refine WS.gtrN (a := ((putF s.F (⟨key, val, UInt64.ofNat (s.v + 1), ls⟩ : It))).length) (b := s.K) rfl rfl rfl (fun e64 => ?_) (fun e64 => ?_)
     ·
      refine D rfl rfl (D rfl rfl (D rfl (op_lenVO hO9 rfl) (D rfl rfl (D rfl (op_ld (M71.at 5 rfl) rfl rfl) (D rfl (op_lenVS A rfl) ?_)))))
      refine WS.gtrN (a := ((putF s.F (⟨key, val, UInt64.ofNat (s.v + 1), ls⟩ : It))).length) (b := (s.F).length) rfl rfl rfl (fun e71 => ?_) (fun e71 => ?_)
      ·
       refine D rfl rfl (D rfl rfl (WS.off rfl (WS.off rfl (WS.off rfl (WS.offC rfl (WS.chkOff rfl (WS.off rfl (D rfl rfl (G [(4, _), (8, _), (10, _), (79, _)] rfl ?_)))))))))
       refine WC.condT rfl (X (Y (D rfl (op_lds [_, _, _, _] (M71.bare.at 5 rfl) rfl (C rfl) rfl) ?_)))
       refine WS.st1 (M71.bare.focus 4 rfl) [_, _, _, _] [_, _, _, _] rfl rfl rfl rfl rfl (C rfl) (C rfl) rfl rfl ?_
       intro h72 M73
       replace M73 : Mem _ _ ([(p4, _)] :: S64 :: [(p60, _)] :: S16 :: [(p7, _)] :: [(p1, _)] :: []) _ := M73
       refine D rfl rfl (G [(8, _), (9, _)] rfl ?_)
       refine WC.ret (⟨[_, _], (res_cellN [_, _, _, _] rfl (M73.at 0 rfl) (C rfl) rfl (res_tmp rfl res_nil)), ?_⟩)
       have e : putK s key val ls = (s, 3) := by unfold putK; exact if_pos (by unfold OverK; omega)
       rw [e]
       exact ⟨_, [], rfl, .inl ⟨rfl, rfl, rfl⟩, (M73.bare.take 0).nils⟩
      ·
       refine D rfl rfl (D rfl rfl (D rfl rfl (D rfl rfl (D rfl (op_ld (M71.at 5 rfl) rfl rfl) ?_))))
       refine WS.call rfl rfl rfl (rSize_ran M71.here (Row.Own.sl hO9 (Mem.owni M71 0 rfl)) (by omega) (by omega)) ?_
       rintro _ h74 ⟨rfl, N75⟩
       have M76 := M71.trans N75
       refine WS.chk rfl (op_ld (M76.at 5 rfl) rfl rfl) rfl (sameV_refl rfl) ?_
       refine WS.gtrN (a := (szF (putF s.F (⟨key, val, UInt64.ofNat (s.v + 1), ls⟩ : It)))) (b := s.M) rfl rfl rfl (fun e78 => ?_) (fun e78 => ?_)
       ·
        refine D rfl rfl (G [(4, _), (8, _), (10, _), (79, _)] rfl ?_)
        refine WC.condT rfl (X (Y (D rfl (op_lds [_, _, _, _] (M76.bare.at 5 rfl) rfl (C rfl) rfl) ?_)))
        refine WS.st1 (M76.bare.focus 4 rfl) [_, _, _, _] [_, _, _, _] rfl rfl rfl rfl rfl (C rfl) (C rfl) rfl rfl ?_
        intro h77 M78
        replace M78 : Mem _ _ ([(p4, _)] :: S64 :: [(p60, _)] :: S16 :: [(p7, _)] :: [(p1, _)] :: []) _ := M78
        refine D rfl rfl (G [(8, _), (9, _)] rfl ?_)
        refine WC.ret (⟨[_, _], (res_cellN [_, _, _, _] rfl (M78.at 0 rfl) (C rfl) rfl (res_tmp rfl res_nil)), ?_⟩)
        have e : putK s key val ls = (s, 3) := by unfold putK; exact if_pos (by unfold OverK; omega)
        rw [e]
        exact ⟨_, [], rfl, .inl ⟨rfl, rfl, rfl⟩, (M78.bare.take 0).nils⟩
       ·
        refine D rfl rfl (G [(4, _), (8, _), (10, _), (79, _)] rfl ?_)
        refine WC.condF rfl (WC.skip (X (Y (D rfl rfl (D rfl rfl ?_)))))
        refine WS.st1 (M76.bare.focus 5 rfl) [_] [_, _, _, _] rfl rfl rfl rfl rfl (C rfl) (C rfl) rfl rfl ?_
        intro h79 M80
        replace M80 : Mem _ _ ([(p1, _)] :: S64 :: [(p60, _)] :: S16 :: [(p7, _)] :: [(p4, _)] :: []) _ := M80
        refine G [(4, _), (8, _)] rfl ?_
        refine X (Y (D rfl rfl (D rfl (op_ld (M80.at 0 rfl) rfl rfl) (WS.opV (.int .u64 (((s.v + 1) : Nat) : Int)) rfl rfl (add_u64 (a := s.v) (b := 1) (by omega)) (D rfl rfl ?_)))))
        refine WS.st1 (M80.focus 0 rfl) [_] [_, _, _, _] rfl rfl rfl rfl rfl (C rfl) (C rfl) rfl rfl ?_
        intro h81 M82
        replace M82 : Mem _ _ ([(p1, _)] :: S64 :: [(p60, _)] :: S16 :: [(p7, _)] :: [(p4, _)] :: []) _ := M82
        refine G [(4, _), (8, _)] rfl ?_
        refine X (Y (D rfl (op_lds [_, _, _, _] (M82.at 0 rfl) rfl (C rfl) rfl) ?_))
        refine WS.st1 (M82.focus 5 rfl) [_, _, _, _] [_, _, _, _] rfl rfl rfl rfl rfl (C rfl) (C rfl) rfl rfl ?_
        intro h83 M84
        replace M84 : Mem _ _ ([(p4, _)] :: [(p1, _)] :: S64 :: [(p60, _)] :: S16 :: [(p7, _)] :: []) _ := M84
        refine D rfl rfl (G [(8, _), (9, _)] rfl ?_)
        refine WC.ret (⟨[_, _], (res_cellN [_, _, _, _] rfl (M84.at 0 rfl) (C rfl) rfl (res_tmp rfl res_nil)), ?_⟩)
        have e : putK s key val ls = (⟨(putF s.F (⟨key, val, UInt64.ofNat (s.v + 1), ls⟩ : It)), s.K, s.M, s.v + 1⟩, 0) := by unfold putK; exact if_neg (by unfold OverK; omega)
        rw [e]
        exact ⟨_, S64, rfl, .inr hO9, ((M84.bare.focus 2 rfl).take 1)⟩
     ·
      refine D rfl rfl (WS.off rfl (WS.off rfl (WS.off rfl (WS.off rfl (WS.off rfl (WS.off rfl (D rfl rfl (D rfl rfl (D rfl rfl ?_)))))))))
      refine D rfl rfl (D rfl (op_ld (M71.at 5 rfl) rfl rfl) ?_)
      refine WS.call rfl rfl rfl (rSize_ran M71.here (Row.Own.sl hO9 (Mem.owni M71 0 rfl)) (by omega) (by omega)) ?_
      rintro _ h85 ⟨rfl, N86⟩
      have M87 := M71.trans N86
      refine WS.chk rfl (op_ld (M87.at 5 rfl) rfl rfl) rfl (sameV_refl rfl) ?_
      refine WS.gtrN (a := (szF (putF s.F (⟨key, val, UInt64.ofNat (s.v + 1), ls⟩ : It)))) (b := s.M) rfl rfl rfl (fun e78 => ?_) (fun e78 => ?_)
      ·
       refine D rfl rfl (G [(4, _), (8, _), (10, _), (79, _)] rfl ?_)
       refine WC.condT rfl (X (Y (D rfl (op_lds [_, _, _, _] (M87.bare.at 5 rfl) rfl (C rfl) rfl) ?_)))
       refine WS.st1 (M87.bare.focus 4 rfl) [_, _, _, _] [_, _, _, _] rfl rfl rfl rfl rfl (C rfl) (C rfl) rfl rfl ?_
       intro h88 M89
       replace M89 : Mem _ _ ([(p4, _)] :: S64 :: [(p60, _)] :: S16 :: [(p7, _)] :: [(p1, _)] :: []) _ := M89
       refine D rfl rfl (G [(8, _), (9, _)] rfl ?_)
       refine WC.ret (⟨[_, _], (res_cellN [_, _, _, _] rfl (M89.at 0 rfl) (C rfl) rfl (res_tmp rfl res_nil)), ?_⟩)
       have e : putK s key val ls = (s, 3) := by unfold putK; exact if_pos (by unfold OverK; omega)
       rw [e]
       exact ⟨_, [], rfl, .inl ⟨rfl, rfl, rfl⟩, (M89.bare.take 0).nils⟩
      ·
       refine D rfl rfl (G [(4, _), (8, _), (10, _), (79, _)] rfl ?_)
       refine WC.condF rfl (WC.skip (X (Y (D rfl rfl (D rfl rfl ?_)))))
       refine WS.st1 (M87.bare.focus 5 rfl) [_] [_, _, _, _] rfl rfl rfl rfl rfl (C rfl) (C rfl) rfl rfl ?_
       intro h90 M91
       replace M91 : Mem _ _ ([(p1, _)] :: S64 :: [(p60, _)] :: S16 :: [(p7, _)] :: [(p4, _)] :: []) _ := M91
       refine G [(4, _), (8, _)] rfl ?_
       refine X (Y (D rfl rfl (D rfl (op_ld (M91.at 0 rfl) rfl rfl) (WS.opV (.int .u64 (((s.v + 1) : Nat) : Int)) rfl rfl (add_u64 (a := s.v) (b := 1) (by omega)) (D rfl rfl ?_)))))
       refine WS.st1 (M91.focus 0 rfl) [_] [_, _, _, _] rfl rfl rfl rfl rfl (C rfl) (C rfl) rfl rfl ?_
       intro h92 M93
       replace M93 : Mem _ _ ([(p1, _)] :: S64 :: [(p60, _)] :: S16 :: [(p7, _)] :: [(p4, _)] :: []) _ := M93
       refine G [(4, _), (8, _)] rfl ?_
       refine X (Y (D rfl (op_lds [_, _, _, _] (M93.at 0 rfl) rfl (C rfl) rfl) ?_))
       refine WS.st1 (M93.focus 5 rfl) [_, _, _, _] [_, _, _, _] rfl rfl rfl rfl rfl (C rfl) (C rfl) rfl rfl ?_
       intro h94 M95
       replace M95 : Mem _ _ ([(p4, _)] :: [(p1, _)] :: S64 :: [(p60, _)] :: S16 :: [(p7, _)] :: []) _ := M95
       refine D rfl rfl (G [(8, _), (9, _)] rfl ?_)
       refine WC.ret (⟨[_, _], (res_cellN [_, _, _, _] rfl (M95.at 0 rfl) (C rfl) rfl (res_tmp rfl res_nil)), ?_⟩)
       have e : putK s key val ls = (⟨(putF s.F (⟨key, val, UInt64.ofNat (s.v + 1), ls⟩ : It)), s.K, s.M, s.v + 1⟩, 0) := by unfold putK; exact if_neg (by unfold OverK; omega)
       rw [e]
       exact ⟨_, S64, rfl, .inr hO9, ((M95.bare.focus 2 rfl).take 1)⟩
    ·
     refine WS.opV (.bool false) rfl rfl rfl (G [(4, _), (8, _), (10, _), (12, _), (55, _)] rfl ?_)
     refine WC.condF rfl (WC.skip (X (X (WC.draw M23 [] rfl ?_))))
     intro rb96 h97 M98
     have hO9 : KIt.Own (.slice P_ pg.length (2 * pg.length)) (putF s.F (⟨key, val, UInt64.ofNat (s.v + 1), ls⟩ : It)) S_ := by have q := pgi_end hP (by omega); rw [put_del (it := (⟨key, val, UInt64.ofNat (s.v + 1), ls⟩ : It))] at q; rw [← q]; exact hO_
     refine D rfl rfl (D rfl (op_lenVO hO9 rfl) (D rfl rfl (D rfl (op_ld (M98.at 4 rfl) rfl rfl) ?_)))
     refine WS.gtrN (a := ((putF s.F (⟨key, val, UInt64.ofNat (s.v + 1), ls⟩ : It))).length) (b := s.K) rfl rfl rfl (fun e64 => ?_) (fun e64 => ?_)
     ·
      refine D rfl rfl (D rfl rfl (D rfl (op_lenVO hO9 rfl) (D rfl rfl (D rfl (op_ld (M98.at 4 rfl) rfl rfl) (D rfl (op_lenVS A rfl) ?_)))))
      refine WS.gtrN (a := ((putF s.F (⟨key, val, UInt64.ofNat (s.v + 1), ls⟩ : It))).length) (b := (s.F).length) rfl rfl rfl (fun e71 => ?_) (fun e71 => ?_)
      ·
       refine D rfl rfl (D rfl rfl (WS.off rfl (WS.off rfl (WS.off rfl (WS.offC rfl (WS.chkOff rfl (WS.off rfl (D rfl rfl (G [(4, _), (8, _), (10, _), (79, _)] rfl ?_)))))))))
       refine WC.condT rfl (X (Y (D rfl (op_lds [_, _, _, _] (M98.bare.at 4 rfl) rfl (C rfl) rfl) ?_)))
       refine WS.st1 (M98.bare.focus 3 rfl) [_, _, _, _] [_, _, _, _] rfl rfl rfl rfl rfl (C rfl) (C rfl) rfl rfl ?_
       intro h99 M100
       replace M100 : Mem _ _ ([(p4, _)] :: S_ :: S16 :: [(p7, _)] :: [(p1, _)] :: []) _ := M100
       refine D rfl rfl (G [(8, _), (9, _)] rfl ?_)
       refine WC.ret (⟨[_, _], (res_cellN [_, _, _, _] rfl (M100.at 0 rfl) (C rfl) rfl (res_tmp rfl res_nil)), ?_⟩)
       have e : putK s key val ls = (s, 3) := by unfold putK; exact if_pos (by unfold OverK; omega)
       rw [e]
       exact ⟨_, [], rfl, .inl ⟨rfl, rfl, rfl⟩, (M100.bare.take 0).nils⟩
      ·
       refine D rfl rfl (D rfl rfl (D rfl rfl (D rfl rfl (D rfl (op_ld (M98.at 4 rfl) rfl rfl) ?_))))
       refine WS.call rfl rfl rfl (rSize_ran M98.here (Row.Own.sl hO9 (Mem.owni M98 0 rfl)) (by omega) (by omega)) ?_
       rintro _ h101 ⟨rfl, N102⟩
       have M103 := M98.trans N102
       refine WS.chk rfl (op_ld (M103.at 4 rfl) rfl rfl) rfl (sameV_refl rfl) ?_
       refine WS.gtrN (a := (szF (putF s.F (⟨key, val, UInt64.ofNat (s.v + 1), ls⟩ : It)))) (b := s.M) rfl rfl rfl (fun e78 => ?_) (fun e78 => ?_)
       ·
        refine D rfl rfl (G [(4, _), (8, _), (10, _), (79, _)] rfl ?_)
        refine WC.condT rfl (X (Y (D rfl (op_lds [_, _, _, _] (M103.bare.at 4 rfl) rfl (C rfl) rfl) ?_)))
        refine WS.st1 (M103.bare.focus 3 rfl) [_, _, _, _] [_, _, _, _] rfl rfl rfl rfl rfl (C rfl) (C rfl) rfl rfl ?_
        intro h104 M105
        replace M105 : Mem _ _ ([(p4, _)] :: S_ :: S16 :: [(p7, _)] :: [(p1, _)] :: []) _ := M105
        refine D rfl rfl (G [(8, _), (9, _)] rfl ?_)
        refine WC.ret (⟨[_, _], (res_cellN [_, _, _, _] rfl (M105.at 0 rfl) (C rfl) rfl (res_tmp rfl res_nil)), ?_⟩)
        have e : putK s key val ls = (s, 3) := by unfold putK; exact if_pos (by unfold OverK; omega)
        rw [e]
        exact ⟨_, [], rfl, .inl ⟨rfl, rfl, rfl⟩, (M105.bare.take 0).nils⟩
       ·
        refine D rfl rfl (G [(4, _), (8, _), (10, _), (79, _)] rfl ?_)
        refine WC.condF rfl (WC.skip (X (Y (D rfl rfl (D rfl rfl ?_)))))
        refine WS.st1 (M103.bare.focus 4 rfl) [_] [_, _, _, _] rfl rfl rfl rfl rfl (C rfl) (C rfl) rfl rfl ?_
        intro h106 M107
        replace M107 : Mem _ _ ([(p1, _)] :: S_ :: S16 :: [(p7, _)] :: [(p4, _)] :: []) _ := M107
        refine G [(4, _), (8, _)] rfl ?_
        refine X (Y (D rfl rfl (D rfl (op_ld (M107.at 0 rfl) rfl rfl) (WS.opV (.int .u64 (((s.v + 1) : Nat) : Int)) rfl rfl (add_u64 (a := s.v) (b := 1) (by omega)) (D rfl rfl ?_)))))
        refine WS.st1 (M107.focus 0 rfl) [_] [_, _, _, _] rfl rfl rfl rfl rfl (C rfl) (C rfl) rfl rfl ?_
        intro h108 M109
        replace M109 : Mem _ _ ([(p1, _)] :: S_ :: S16 :: [(p7, _)] :: [(p4, _)] :: []) _ := M109
        refine G [(4, _), (8, _)] rfl ?_
        refine X (Y (D rfl (op_lds [_, _, _, _] (M109.at 0 rfl) rfl (C rfl) rfl) ?_))
        refine WS.st1 (M109.focus 4 rfl) [_, _, _, _] [_, _, _, _] rfl rfl rfl rfl rfl (C rfl) (C rfl) rfl rfl ?_
        intro h110 M111
        replace M111 : Mem _ _ ([(p4, _)] :: [(p1, _)] :: S_ :: S16 :: [(p7, _)] :: []) _ := M111
        refine D rfl rfl (G [(8, _), (9, _)] rfl ?_)
        refine WC.ret (⟨[_, _], (res_cellN [_, _, _, _] rfl (M111.at 0 rfl) (C rfl) rfl (res_tmp rfl res_nil)), ?_⟩)
        have e : putK s key val ls = (⟨(putF s.F (⟨key, val, UInt64.ofNat (s.v + 1), ls⟩ : It)), s.K, s.M, s.v + 1⟩, 0) := by unfold putK; exact if_neg (by unfold OverK; omega)
        rw [e]
        exact ⟨_, S_, rfl, .inr hO9, ((M111.bare.focus 2 rfl).take 1)⟩
     ·
      refine D rfl rfl (WS.off rfl (WS.off rfl (WS.off rfl (WS.off rfl (WS.off rfl (WS.off rfl (D rfl rfl (D rfl rfl (D rfl rfl ?_)))))))))
      refine D rfl rfl (D rfl (op_ld (M98.at 4 rfl) rfl rfl) ?_)
      refine WS.call rfl rfl rfl (rSize_ran M98.here (Row.Own.sl hO9 (Mem.owni M98 0 rfl)) (by omega) (by omega)) ?_
      rintro _ h112 ⟨rfl, N113⟩
      have M114 := M98.trans N113
      refine WS.chk rfl (op_ld (M114.at 4 rfl) rfl rfl) rfl (sameV_refl rfl) ?_
      refine WS.gtrN (a := (szF (putF s.F (⟨key, val, UInt64.ofNat (s.v + 1), ls⟩ : It)))) (b := s.M) rfl rfl rfl (fun e78 => ?_) (fun e78 => ?_)
      ·
       refine D rfl rfl (G [(4, _), (8, _), (10, _), (79, _)] rfl ?_)
       refine WC.condT rfl (X (Y (D rfl (op_lds [_, _, _, _] (M114.bare.at 4 rfl) rfl (C rfl) rfl) ?_)))
       refine WS.st1 (M114.bare.focus 3 rfl) [_, _, _, _] [_, _, _, _] rfl rfl rfl rfl rfl (C rfl) (C rfl) rfl rfl ?_
       intro h115 M116
       replace M116 : Mem _ _ ([(p4, _)] :: S_ :: S16 :: [(p7, _)] :: [(p1, _)] :: []) _ := M116
       refine D rfl rfl (G [(8, _), (9, _)] rfl ?_)
       refine WC.ret (⟨[_, _], (res_cellN [_, _, _, _] rfl (M116.at 0 rfl) (C rfl) rfl (res_tmp rfl res_nil)), ?_⟩)
       have e : putK s key val ls = (s, 3) := by unfold putK; exact if_pos (by unfold OverK; omega)
       rw [e]
       exact ⟨_, [], rfl, .inl ⟨rfl, rfl, rfl⟩, (M116.bare.take 0).nils⟩
      ·
       refine D rfl rfl (G [(4, _), (8, _), (10, _), (79, _)] rfl ?_)
       refine WC.condF rfl (WC.skip (X (Y (D rfl rfl (D rfl rfl ?_)))))
       refine WS.st1 (M114.bare.focus 4 rfl) [_] [_, _, _, _] rfl rfl rfl rfl rfl (C rfl) (C rfl) rfl rfl ?_
       intro h117 M118
       replace M118 : Mem _ _ ([(p1, _)] :: S_ :: S16 :: [(p7, _)] :: [(p4, _)] :: []) _ := M118
       refine G [(4, _), (8, _)] rfl ?_
       refine X (Y (D rfl rfl (D rfl (op_ld (M118.at 0 rfl) rfl rfl) (WS.opV (.int .u64 (((s.v + 1) : Nat) : Int)) rfl rfl (add_u64 (a := s.v) (b := 1) (by omega)) (D rfl rfl ?_)))))
       refine WS.st1 (M118.focus 0 rfl) [_] [_, _, _, _] rfl rfl rfl rfl rfl (C rfl) (C rfl) rfl rfl ?_
       intro h119 M120
       replace M120 : Mem _ _ ([(p1, _)] :: S_ :: S16 :: [(p7, _)] :: [(p4, _)] :: []) _ := M120
       refine G [(4, _), (8, _)] rfl ?_
       refine X (Y (D rfl (op_lds [_, _, _, _] (M120.at 0 rfl) rfl (C rfl) rfl) ?_))
       refine WS.st1 (M120.focus 4 rfl) [_, _, _, _] [_, _, _, _] rfl rfl rfl rfl rfl (C rfl) (C rfl) rfl rfl ?_
       intro h121 M122
       replace M122 : Mem _ _ ([(p4, _)] :: [(p1, _)] :: S_ :: S16 :: [(p7, _)] :: []) _ := M122
       refine D rfl rfl (G [(8, _), (9, _)] rfl ?_)
       refine WC.ret (⟨[_, _], (res_cellN [_, _, _, _] rfl (M122.at 0 rfl) (C rfl) rfl (res_tmp rfl res_nil)), ?_⟩)
       have e : putK s key val ls = (⟨(putF s.F (⟨key, val, UInt64.ofNat (s.v + 1), ls⟩ : It)), s.K, s.M, s.v + 1⟩, 0) := by unfold putK; exact if_neg (by unfold OverK; omega)
       rw [e]
       exact ⟨_, S_, rfl, .inr hO9, ((M122.bare.focus 2 rfl).take 1)⟩
end Go.Proofs.Ytkfjlbdedjoojaa.Wt
namespace Go.Proofs.Ytkfjlbdedjoojaa.Wt
open Go Go.Proofs.Ytkfjlbdedjoojaa.Am Go.Proofs.Ytkfjlbdedjoojaa.IrAll
open Nat renaming le_of_ble_eq_true → C
open Go.Proofs.Ytkfjlbdedjoojaa.Am.WS renaming op → D
open Go.Proofs.Ytkfjlbdedjoojaa.Am.WS renaming nil → G
open Go.Proofs.Ytkfjlbdedjoojaa.Am.WC renaming seq → J
open Go.Proofs.Ytkfjlbdedjoojaa.Am.WC renaming run → U
set_option linter.unusedVariables false
set_option linter.unusedSimpArgs false
variable {h base h2 : H} {L : List Seg} {R : List Nat}
set_option maxRecDepth 8000 in
theorem rDelete_ran (W : Mem h h [] []) {V : Value} {s : KS} {key : List UInt8} (A : KIt.Sl h V s.F) (hl : s.F.length ≤ 800000) (hv : s.v < 18446744073709551615) : Cll tab0 41 [.agg #[V, .int .i64 (s.K : Int), .int .i64 (s.M : Int), .int .u64 (s.v : Int)], .string (bs key)] h (fun u h2 => ∃ V' S, u = .tuple #[.agg #[V', .int .i64 ((delK s key).1.K : Int), .int .i64 ((delK s key).1.M : Int), .int .u64 ((delK s key).1.v : Int)], .int .u8 (((delK s key).2 : Nat) : Int)] ∧ OutR V V' s.F (delK s key).1.F S ∧ Mem h h2 [S] []) := by
  obtain ⟨Pl, nl, rfl⟩ := A.shape
  refine Cll.code rfl rfl ?_
  refine WC.env [(0, _), (1, _)] rfl ?_
  refine J (U (WS.box W [_, _, _, _] rfl rfl rfl rfl ?_))
  intro p1 h2 M3
  refine WS.new M3 rfl ?_
  intro p4 h5 M6
  refine D rfl rfl (G [(1, _), (2, _), (4, _)] rfl ?_)
  refine J (U (D rfl rfl (D rfl (op_ld (M6.at 1 rfl) rfl rfl) (D rfl rfl ?_))))
  refine WS.call rfl rfl rfl (Find_ran M6.here (key := key) (A.mono M6.sub) (by omega)) ?_
  rintro _ h7 ⟨rfl, N8⟩
  have M9 := M6.trans N8
  refine D rfl rfl (D rfl rfl (D rfl rfl ?_))
  refine WS.new M9 rfl ?_
  intro p10 h11 M12
  refine WS.st1 (M12.focus 0 rfl) [_, _, _, _] [_, _, _, _] rfl rfl rfl rfl rfl (C rfl) (C rfl) rfl rfl ?_
  intro h13 M14
  replace M14 : Mem _ _ ([(p10, _)] :: [(p4, _)] :: [(p1, _)] :: []) _ := M14
  refine D rfl rfl (G [(1, _), (2, _), (4, _), (7, _)] rfl ?_)
  refine J (J (U (D rfl rfl ?_)))
  cases hb1 : (getV s.F key).2
  ·
   refine WS.opV (.bool true) rfl rfl rfl (G [(1, _), (2, _), (4, _), (16, _)] rfl ?_)
   refine WC.condT rfl (J (U (D rfl (op_lds [_, _, _, _] (M14.at 2 rfl) rfl (C rfl) rfl) ?_)))
   refine WS.st1 (M14.focus 1 rfl) [_, _, _, _] [_, _, _, _] rfl rfl rfl rfl rfl (C rfl) (C rfl) rfl rfl ?_
   intro h15 M16
   replace M16 : Mem _ _ ([(p4, _)] :: [(p10, _)] :: [(p1, _)] :: []) _ := M16
   refine D rfl rfl (G [(4, _), (5, _)] rfl ?_)
   refine WC.ret (⟨[_, _], (res_cellN [_, _, _, _] rfl (M16.at 0 rfl) (C rfl) rfl (res_tmp rfl res_nil)), ?_⟩)
   have e : delK s key = (s, 1) := by unfold delK; exact if_neg (fun q => by rw [hb1] at q; cases q)
   rw [e]
   exact ⟨_, [], rfl, .inl ⟨rfl, rfl, rfl⟩, (M16.bare.take 0).nils⟩
  ·
   refine WS.opV (.bool false) rfl rfl rfl (G [(1, _), (2, _), (4, _), (16, _)] rfl ?_)
   refine WC.condF rfl (WC.skip (J (U (D rfl rfl (D rfl (op_ld (M14.at 2 rfl) rfl rfl) (D rfl rfl ?_))))))
   refine WS.call rfl rfl rfl (without_ran M14.here (key := key) (A.mono M14.sub) (by omega)) ?_
   rintro V20 h17 ⟨S21, O22, N18⟩
   obtain ⟨P23, rfl⟩ := O22.shape
   have M19 := M14.trans N18
   replace M19 : Mem _ _ (S21 :: [(p10, _)] :: [(p4, _)] :: [(p1, _)] :: []) _ := M19
   refine D rfl rfl ?_
   refine WS.st1 (M19.focus 3 rfl) [_] [_, _, _, _] rfl rfl rfl rfl rfl (C rfl) (C rfl) rfl rfl ?_
   intro h24 M25
   replace M25 : Mem _ _ ([(p1, _)] :: S21 :: [(p10, _)] :: [(p4, _)] :: []) _ := M25
   refine G [(2, _), (4, _)] rfl ?_
   refine J (U (D rfl rfl (D rfl (op_ld (M25.at 0 rfl) rfl rfl) (WS.opV (.int .u64 (((s.v + 1) : Nat) : Int)) rfl rfl (add_u64 (a := s.v) (b := 1) (by omega)) (D rfl rfl ?_)))))
   refine WS.st1 (M25.focus 0 rfl) [_] [_, _, _, _] rfl rfl rfl rfl rfl (C rfl) (C rfl) rfl rfl ?_
   intro h26 M27
   replace M27 : Mem _ _ ([(p1, _)] :: S21 :: [(p10, _)] :: [(p4, _)] :: []) _ := M27
   refine G [(2, _), (4, _)] rfl ?_
   refine J (U (D rfl (op_lds [_, _, _, _] (M27.at 0 rfl) rfl (C rfl) rfl) ?_))
   refine WS.st1 (M27.focus 3 rfl) [_, _, _, _] [_, _, _, _] rfl rfl rfl rfl rfl (C rfl) (C rfl) rfl rfl ?_
   intro h28 M29
   replace M29 : Mem _ _ ([(p4, _)] :: [(p1, _)] :: S21 :: [(p10, _)] :: []) _ := M29
   refine D rfl rfl (G [(4, _), (5, _)] rfl ?_)
   refine WC.ret (⟨[_, _], (res_cellN [_, _, _, _] rfl (M29.at 0 rfl) (C rfl) rfl (res_tmp rfl res_nil)), ?_⟩)
   have e : delK s key = (⟨delF s.F key, s.K, s.M, s.v + 1⟩, 0) := by unfold delK; exact if_pos hb1
   rw [e]
   exact ⟨_, S21, rfl, .inr O22, ((M29.bare.focus 2 rfl).take 1)⟩
set_option maxRecDepth 8000 in
theorem rBatch_ran (W : Mem h h [] []) {V : Value} {s : KS} {np : Nat} {Pp : Option Addr} {parts : List PtI} (A : KIt.Sl h V s.F) (A2 : KPtI.Sl h (.slice Pp parts.length np) parts) (hok : KOk s) (hN : s.F.length + parts.length ≤ 800000) (hV : s.v + parts.length < 9223372036854775808) (hpl : ∀ x ∈ parts, x.ky.length ≤ 1000000 ∧ x.va.length ≤ 1000000) : Cll tab0 42 [.agg #[V, .int .i64 (s.K : Int), .int .i64 (s.M : Int), .int .u64 (s.v : Int)], .slice Pp parts.length np] h (fun u h2 => ∃ V' S, u = .tuple #[.agg #[V', .int .i64 ((batK s parts).1.K : Int), .int .i64 ((batK s parts).1.M : Int), .int .u64 ((batK s parts).1.v : Int)], .int .u8 (((batK s parts).2 : Nat) : Int)] ∧ OutR V V' s.F (batK s parts).1.F S ∧ Mem h h2 [S] []) := by
  obtain ⟨Pl, nl, rfl⟩ := A.shape
  refine Cll.code rfl rfl ?_
  refine WC.env [(0, _), (1, _)] rfl ?_
  refine J (U (WS.box W [_, _, _, _] rfl rfl rfl rfl ?_))
  intro p1 h2 M3
  refine WS.new M3 rfl ?_
  intro p4 h5 M6
  refine D rfl rfl (G [(1, _), (2, _), (4, _)] rfl ?_)
  refine J (U (D rfl (op_lds [_, _, _, _] (M6.at 1 rfl) rfl (C rfl) rfl) ?_))
  refine WS.new M6 rfl ?_
  intro p7 h8 M9
  refine WS.st1 (M9.focus 0 rfl) [_, _, _, _] [_, _, _, _] rfl rfl rfl rfl rfl (C rfl) (C rfl) rfl rfl ?_
  intro h10 M11
  replace M11 : Mem _ _ ([(p7, _)] :: [(p4, _)] :: [(p1, _)] :: []) _ := M11
  refine G [(1, _), (2, _), (4, _), (6, _)] rfl ?_
  refine J (J (U (D rfl rfl (G [(1, _), (2, _), (4, _), (6, _), (7, _)] rfl ?_))))
  refine WC.block ?_
  obtain ⟨L12, eL14, M13⟩ := Mem.name2 (((M11.bare.focus 0 rfl)).nils)
  refine WC.loop (σ := Option Addr × Nat × Seg × KS × Nat) (fun ((P_, c_, S_, t, i)) => [(1, (.slice Pp parts.length np)), (2, (.pointer (some ⟨p1, 0, none⟩))), (4, (.pointer (some ⟨p4, 0, none⟩))), (6, (.pointer (some ⟨p7, 0, none⟩))), (7, (.int .i64 ((i : Nat) : Int)))]) (fun ((P_, c_, S_, t, i)) hh => Mem h hh (S_ :: [(p7, ⟨[(.slice P_ t.F.length c_), (.int .i64 ((t.K : Nat) : Int)), (.int .i64 ((t.M : Nat) : Int)), (.int .u64 ((t.v : Nat) : Int))], 0, false⟩)] :: L12) [] ∧ OutR (.slice Pl s.F.length nl) (.slice P_ t.F.length c_) s.F t.F S_ ∧ KOk t ∧ batK s parts = batG s t (parts.drop i) ∧ t.F.length ≤ s.F.length + i ∧ t.v ≤ s.v + i ∧ i ≤ parts.length) (fun ((P_, c_, S_, t, i)) => parts.length - i) (Pl, nl, [], s, 0) rfl ⟨(by exact M13), ?_⟩ ?_
  · exact ⟨.inl ⟨rfl, rfl, rfl⟩, hok, rfl, Nat.le_refl _, Nat.le_refl _, by omega⟩
  ·rintro ⟨P_, c_, S_, t, i⟩ h15 ⟨M16, ⟨hR_, hT, hE, hTn, hTv, hi⟩⟩
   replace eL14 := eL14.symm; subst eL14
   refine WC.env [(1, _), (2, _), (4, _), (6, _), (7, _)] rfl ?_
   refine J (J (U (D rfl rfl (D rfl rfl (D rfl (op_lenVS A2 rfl) ?_)))))
   refine WS.lssN (a := i) (b := (parts).length) rfl rfl rfl (fun e13 => ?_) (fun e13 => ?_)
   ·
    refine G [(1, _), (2, _), (4, _), (6, _), (7, _), (13, _)] rfl ?_
    refine WC.condT rfl (WC.skip (J (WC.block (J (U (D rfl rfl (G [(1, _), (2, _), (4, _), (6, _), (7, _), (8, _)] rfl ?_)))))))
    refine J (J (U (D rfl rfl (D rfl rfl ?_))))
    obtain ⟨y18, hy18⟩ : ∃ y, (parts)[i]? = some y := ⟨_, List.getElem?_eq_getElem (show i < (parts).length by first | omega | (simp only [List.length_drop, List.length_take, List.length_append, List.length_cons, List.length_nil, List.length_singleton]; omega) | (simp only [List.length_drop, List.length_take, List.length_append, List.length_cons, List.length_nil, List.length_singleton] at *; omega))⟩
    refine WS.iaVS A2 i hy18 rfl rfl rfl rfl ?_
    intro b18_ o18_ ha18
    refine D rfl rfl (D rfl (op_ldH rfl (At.ld0 (ha18.mono M16.sub) rfl)) ?_)
    refine WS.eqlN (a := (y18.op).toNat) (b := 2) rfl rfl rfl (fun e21 => ?_) (fun e21 => ?_)
    ·
     refine G [(1, _), (2, _), (4, _), (6, _), (7, _), (8, _), (21, _)] rfl ?_
     refine WC.condT rfl (WC.draw M16 [] rfl ?_)
     intro rb17 h18 M19
     refine D rfl (op_lds [_, _, _, _] (M19.at 1 rfl) rfl (C rfl) rfl) (D rfl rfl (D rfl rfl ?_))
     refine WS.iaVS A2 i hy18 rfl rfl rfl rfl ?_
     intro b26_ o26_ ha26
     refine D rfl rfl (D rfl (op_ldH rfl (At.ld (k := 1) (ha26.mono M19.sub) rfl)) (D rfl rfl (D rfl rfl ?_)))
     refine WS.iaVS A2 i hy18 rfl rfl rfl rfl ?_
     intro b31_ o31_ ha31
     refine D rfl rfl (D rfl (op_ldH rfl (At.ld (k := 2) (ha31.mono M19.sub) rfl)) ?_)
     refine WS.call rfl rfl rfl (rPut_ran M19.here (s := t) (OutR.sl hR_ (A.mono M19.sub) (Mem.owni M19 0 rfl)) (key := y18.ky) (val := y18.va) (ls := 0) hT (by omega) (hpl _ (List.mem_of_getElem? hy18)).1 (hpl _ (List.mem_of_getElem? hy18)).2 (by omega)) ?_
     rintro _ h20 ⟨V23, S24, rfl, hR25, N21⟩
     obtain ⟨P26, c27, rfl⟩ := hR25.shape (OutR.sl hR_ (A.mono M19.sub) (Mem.owni M19 0 rfl))
     have M22 := M19.trans N21
     replace M22 : Mem _ _ (S24 :: S_ :: [(p7, _)] :: [(p4, _)] :: [(p1, _)] :: []) _ := M22
     obtain ⟨S29, O30, M28⟩ := OutR.step hR_ hR25 ((M22.focus 1 rfl).focus 1 rfl)
     replace M28 : Mem _ _ (S29 :: [(p7, _)] :: [(p4, _)] :: [(p1, _)] :: []) _ := M28
     refine D rfl rfl (D rfl rfl (D rfl rfl ?_))
     refine WS.st1 (M28.focus 1 rfl) [_, _, _, _] [_, _, _, _] rfl rfl rfl rfl rfl (C rfl) (C rfl) rfl rfl ?_
     intro h31 M32
     replace M32 : Mem _ _ ([(p7, _)] :: S29 :: [(p4, _)] :: [(p1, _)] :: []) _ := M32
     refine D rfl rfl (G [(1, _), (2, _), (4, _), (6, _), (7, _), (8, _)] rfl ?_)
     refine J (U (D rfl rfl ?_))
     refine WS.neqN (a := (putK t y18.ky y18.va 0).2) (b := 0) rfl rfl rfl (fun e48 => ?_) (fun e48 => ?_)
     ·
      refine G [(1, _), (2, _), (4, _), (6, _), (7, _), (8, _), (48, _)] rfl ?_
      refine WC.condT rfl (J (U (D rfl (op_lds [_, _, _, _] (M32.bare.at 3 rfl) rfl (C rfl) rfl) (D rfl rfl ?_))))
      refine WS.st1 (M32.bare.focus 2 rfl) [_, _, _, _] [_, _, _, _] rfl rfl rfl rfl rfl (C rfl) (C rfl) rfl rfl ?_
      intro h33 M34
      replace M34 : Mem _ _ ([(p4, _)] :: [(p7, _)] :: S29 :: [(p1, _)] :: []) _ := M34
      refine D rfl rfl (G [(4, _), (5, _)] rfl ?_)
      refine WC.ret (⟨[_, _], (res_cellN [_, _, _, _] rfl (M34.at 0 rfl) (C rfl) rfl (res_tmp rfl res_nil)), ?_⟩)
      have hE2 := hE.trans (bat_over hy18 e21 e48)
      rw [hE2]
      exact ⟨_, [], rfl, .inl ⟨rfl, rfl, rfl⟩, (M34.bare.take 0).nils⟩
     ·
      refine G [(1, _), (2, _), (4, _), (6, _), (7, _), (8, _), (48, _)] rfl ?_
      refine WC.condF rfl (WC.skip (U (D rfl rfl (WS.opV (.int .i64 (((i + 1) : Nat) : Int)) rfl rfl (add_i64 (a := i) (b := 1) (by omega)) (D rfl rfl (G [(1, _), (2, _), (4, _), (6, _), (7, _)] rfl ?_))))))
      refine ⟨(P26, c27, S29, (putK t y18.ky y18.va 0).1, i + 1), rfl, ⟨(((((M32.bare.bare.focus 3 rfl).focus 3 rfl).focus 2 rfl).focus 3 rfl).take 4), ?_⟩, ?_⟩
      · have gw := put_grow (key := y18.ky) (val := y18.va) (ls := 0) hT; exact ⟨O30, put_ok hT, hE.trans (bat_put hy18 e21 e48), by omega, by omega, by omega⟩
      · simp only []; omega
    ·
     refine G [(1, _), (2, _), (4, _), (6, _), (7, _), (8, _), (21, _)] rfl ?_
     refine WC.condF rfl (WC.draw M16 [] rfl ?_)
     intro rb35 h36 M37
     refine D rfl (op_lds [_, _, _, _] (M37.at 1 rfl) rfl (C rfl) rfl) (D rfl rfl (D rfl rfl ?_))
     refine WS.iaVS A2 i hy18 rfl rfl rfl rfl ?_
     intro b41_ o41_ ha41
     refine D rfl rfl (D rfl (op_ldH rfl (At.ld (k := 1) (ha41.mono M37.sub) rfl)) ?_)
     refine WS.call rfl rfl rfl (rDelete_ran M37.here (s := t) (OutR.sl hR_ (A.mono M37.sub) (Mem.owni M37 0 rfl)) (key := y18.ky) (by omega) (by omega)) ?_
     rintro _ h38 ⟨V41, S42, rfl, hR43, N39⟩
     obtain ⟨P44, c45, rfl⟩ := hR43.shape (OutR.sl hR_ (A.mono M37.sub) (Mem.owni M37 0 rfl))
     have M40 := M37.trans N39
     replace M40 : Mem _ _ (S42 :: S_ :: [(p7, _)] :: [(p4, _)] :: [(p1, _)] :: []) _ := M40
     obtain ⟨S47, O48, M46⟩ := OutR.step hR_ hR43 ((M40.focus 1 rfl).focus 1 rfl)
     replace M46 : Mem _ _ (S47 :: [(p7, _)] :: [(p4, _)] :: [(p1, _)] :: []) _ := M46
     refine D rfl rfl (D rfl rfl (D rfl rfl ?_))
     refine WS.st1 (M46.focus 1 rfl) [_, _, _, _] [_, _, _, _] rfl rfl rfl rfl rfl (C rfl) (C rfl) rfl rfl ?_
     intro h49 M50
     replace M50 : Mem _ _ ([(p7, _)] :: S47 :: [(p4, _)] :: [(p1, _)] :: []) _ := M50
     refine G [(1, _), (2, _), (4, _), (6, _), (7, _), (8, _)] rfl ?_
     refine J (U (D rfl rfl (WS.opV (.bool false) rfl rfl rfl (G [(1, _), (2, _), (4, _), (6, _), (7, _), (8, _), (48, _)] rfl ?_))))
     refine WC.condF rfl (WC.skip (U (D rfl rfl (WS.opV (.int .i64 (((i + 1) : Nat) : Int)) rfl rfl (add_i64 (a := i) (b := 1) (by omega)) (D rfl rfl (G [(1, _), (2, _), (4, _), (6, _), (7, _)] rfl ?_))))))
     refine ⟨(P44, c45, S47, (delK t y18.ky).1, i + 1), rfl, ⟨(((((M50.bare.bare.focus 3 rfl).focus 3 rfl).focus 2 rfl).focus 3 rfl).take 4), ?_⟩, ?_⟩
     · have gw := del_grow (s := t) (key := y18.ky); exact ⟨O48, del_ok hT, hE.trans (bat_del hy18 e21), by omega, by omega, by omega⟩
     · simp only []; omega
   ·
    refine G [(1, _), (2, _), (4, _), (6, _), (7, _), (13, _)] rfl ?_
    refine WC.condF rfl (WC.exit ?_)
    refine J (U (D rfl (op_lds [_, _, _, _] (M16.at 1 rfl) rfl (C rfl) rfl) ?_))
    refine WS.st1 (M16.focus 2 rfl) [_, _, _, _] [_, _, _, _] rfl rfl rfl rfl rfl (C rfl) (C rfl) rfl rfl ?_
    intro h51 M52
    replace M52 : Mem _ _ ([(p4, _)] :: S_ :: [(p7, _)] :: [(p1, _)] :: []) _ := M52
    refine D rfl rfl (G [(4, _), (5, _)] rfl ?_)
    refine WC.ret (⟨[_, _], (res_cellN [_, _, _, _] rfl (M52.at 0 rfl) (C rfl) rfl (res_tmp rfl res_nil)), ?_⟩)
    have hE2 : batK s parts = (t, 0) := by rw [hE, List.drop_of_length_le (by omega)]; rfl
    rw [hE2]
    exact ⟨_, _, rfl, hR_, ((M52.bare.focus 1 rfl).take 1)⟩
set_option maxRecDepth 8000 in
theorem rEnd_ran (W : Mem h h [] []) {V : Value} {s : KS} {ls : UInt64} (A : KIt.Sl h V s.F) (hok : KOk s) (hl : s.F.length ≤ 800000) (hV : s.v + s.F.length < 9223372036854775808) : Cll tab0 43 [.agg #[V, .int .i64 (s.K : Int), .int .i64 (s.M : Int), .int .u64 (s.v : Int)], .int .u64 (ls.toNat : Int)] h (fun u h2 => ∃ V' S, u = .tuple #[.agg #[V', .int .i64 ((endK s ls).1.K : Int), .int .i64 ((endK s ls).1.M : Int), .int .u64 ((endK s ls).1.v : Int)], .int .i64 (((endK s ls).2 : Nat) : Int)] ∧ OutR V V' s.F (endK s ls).1.F S ∧ Mem h h2 [S] []) := by
  obtain ⟨Pl, nl, rfl⟩ := A.shape
  refine Cll.code rfl rfl ?_
  refine WC.env [(0, _), (1, _)] rfl ?_
  refine J (U (WS.box W [_, _, _, _] rfl rfl rfl rfl ?_))
  intro p1 h2 M3
  refine WS.new M3 rfl ?_
  intro p4 h5 M6
  refine D rfl rfl (G [(1, _), (2, _), (4, _)] rfl ?_)
  refine J (U (D rfl rfl (G [(1, _), (2, _), (4, _), (6, _)] rfl ?_)))
  refine J (U (D rfl rfl (D rfl (op_ld (M6.at 1 rfl) rfl rfl) (D rfl rfl (G [(1, _), (2, _), (4, _), (6, _), (7, _)] rfl ?_)))))
  refine J (J (U (D rfl rfl (G [(1, _), (2, _), (4, _), (6, _), (7, _), (8, _)] rfl ?_))))
  refine WC.block ?_
  obtain ⟨L7, eL9, M8⟩ := Mem.name2 (((M6.bare.focus 1 rfl)).nils)
  refine WC.loop (σ := Option Addr × Nat × Seg × KS × Nat × Nat) (fun ((P_, c_, S_, t, n, i)) => [(1, (.int .u64 (((ls).toNat : Nat) : Int))), (2, (.pointer (some ⟨p1, 0, none⟩))), (4, (.pointer (some ⟨p4, 0, none⟩))), (6, (.int .i64 ((n : Nat) : Int))), (7, (.slice Pl s.F.length nl)), (8, (.int .i64 ((i : Nat) : Int)))]) (fun ((P_, c_, S_, t, n, i)) hh => Mem h hh (S_ :: [(p1, ⟨[(.slice P_ t.F.length c_), (.int .i64 ((t.K : Nat) : Int)), (.int .i64 ((t.M : Nat) : Int)), (.int .u64 ((t.v : Nat) : Int))], 0, false⟩)] :: L7) [] ∧ OutR (.slice Pl s.F.length nl) (.slice P_ t.F.length c_) s.F t.F S_ ∧ ((t, n) = if ls.toNat = 0 then (s, 0) else (s.F.take i).foldl (endS ls) (s, 0)) ∧ t.F.length ≤ s.F.length ∧ t.v ≤ s.v + i ∧ n ≤ i ∧ i ≤ s.F.length) (fun ((P_, c_, S_, t, n, i)) => s.F.length - i) (Pl, nl, [], s, 0, 0) rfl ⟨(by exact M8), ?_⟩ ?_
  · exact ⟨.inl ⟨rfl, rfl, rfl⟩, by split <;> rfl, Nat.le_refl _, Nat.le_refl _, by omega, by omega⟩
  ·rintro ⟨P_, c_, S_, t, n, i⟩ h10 ⟨M11, ⟨hR_, hE, hTn, hTv, hni, hi⟩⟩
   replace eL9 := eL9.symm; subst eL9
   refine WC.env [(1, _), (2, _), (4, _), (6, _), (7, _), (8, _)] rfl ?_
   refine J (J (U (D rfl rfl (D rfl rfl (D rfl (op_lenVS A rfl) ?_)))))
   refine WS.lssN (a := i) (b := (s.F).length) rfl rfl rfl (fun e14 => ?_) (fun e14 => ?_)
   ·
    refine G [(1, _), (2, _), (4, _), (6, _), (7, _), (8, _), (14, _)] rfl ?_
    refine WC.condT rfl (WC.skip (J (WC.block (J (U (D rfl rfl ?_))))))
    refine WS.neqN (a := (ls).toNat) (b := 0) rfl rfl rfl (fun e18 => ?_) (fun e18 => ?_)
    ·
     refine D rfl rfl (D rfl rfl (D rfl rfl ?_))
     obtain ⟨y22, hy22⟩ : ∃ y, (s.F)[i]? = some y := ⟨_, List.getElem?_eq_getElem (show i < (s.F).length by first | omega | (simp only [List.length_drop, List.length_take, List.length_append, List.length_cons, List.length_nil, List.length_singleton]; omega) | (simp only [List.length_drop, List.length_take, List.length_append, List.length_cons, List.length_nil, List.length_singleton] at *; omega))⟩
     refine WS.iaVS A i hy22 rfl rfl rfl rfl ?_
     intro b22_ o22_ ha22
     refine D rfl rfl (D rfl (op_ldH rfl (At.ld (k := 3) (ha22.mono M11.sub) rfl)) (D rfl rfl ?_))
     refine WS.eqlN (a := (y22.ls).toNat) (b := (ls).toNat) rfl rfl rfl (fun e26 => ?_) (fun e26 => ?_)
     ·
      refine D rfl rfl (G [(1, _), (2, _), (4, _), (6, _), (7, _), (8, _), (27, _)] rfl ?_)
      refine WC.condT rfl (J (WC.draw M11 [] rfl ?_))
      intro rb12 h13 M14
      refine D rfl (op_lds [_, _, _, _] (M14.at 1 rfl) rfl (C rfl) rfl) (D rfl rfl (D rfl rfl ?_))
      refine WS.iaVS A i hy22 rfl rfl rfl rfl ?_
      intro b32_ o32_ ha32
      refine D rfl rfl (D rfl (op_ldH rfl (At.ld0 (ha32.mono M14.sub) rfl)) ?_)
      refine WS.call rfl rfl rfl (rDelete_ran M14.here (s := t) (OutR.sl hR_ (A.mono M14.sub) (Mem.owni M14 0 rfl)) (key := y22.ky) (by omega) (by omega)) ?_
      rintro _ h15 ⟨V18, S19, rfl, hR20, N16⟩
      obtain ⟨P21, c22, rfl⟩ := hR20.shape (OutR.sl hR_ (A.mono M14.sub) (Mem.owni M14 0 rfl))
      have M17 := M14.trans N16
      replace M17 : Mem _ _ (S19 :: S_ :: [(p1, _)] :: [(p4, _)] :: []) _ := M17
      obtain ⟨S24, O25, M23⟩ := OutR.step hR_ hR20 ((M17.focus 1 rfl).focus 1 rfl)
      replace M23 : Mem _ _ (S24 :: [(p1, _)] :: [(p4, _)] :: []) _ := M23
      refine D rfl rfl (D rfl rfl (D rfl rfl ?_))
      refine WS.st1 (M23.focus 1 rfl) [_, _, _, _] [_, _, _, _] rfl rfl rfl rfl rfl (C rfl) (C rfl) rfl rfl ?_
      intro h26 M27
      replace M27 : Mem _ _ ([(p1, _)] :: S24 :: [(p4, _)] :: []) _ := M27
      refine G [(1, _), (2, _), (4, _), (6, _), (7, _), (8, _)] rfl ?_
      refine U (D rfl rfl (WS.opV (.int .i64 (((n + 1) : Nat) : Int)) rfl rfl (add_i64 (a := n) (b := 1) (by omega)) (D rfl rfl (G [(1, _), (2, _), (4, _), (6, _), (7, _), (8, _)] rfl ?_))))
      refine U (D rfl rfl (WS.opV (.int .i64 (((i + 1) : Nat) : Int)) rfl rfl (add_i64 (a := i) (b := 1) (by omega)) (D rfl rfl (G [(1, _), (2, _), (4, _), (6, _), (7, _), (8, _)] rfl ?_))))
      refine ⟨(P21, c22, S24, (delK t y22.ky).1, (n + 1), i + 1), rfl, ⟨((((M27.bare.bare.focus 2 rfl).focus 1 rfl).focus 2 rfl).take 3), ?_⟩, ?_⟩
      · have gw := del_grow (s := t) (key := y22.ky); exact ⟨O25, by rw [if_neg e18] at hE ⊢; rw [fold_snoc hy22, ← hE]; unfold endS; rw [if_pos (UInt64.toNat_inj.1 e26)], by omega, by omega, by omega, by omega⟩
      · simp only []; omega
     ·
      refine D rfl rfl (G [(1, _), (2, _), (4, _), (6, _), (7, _), (8, _), (27, _)] rfl ?_)
      refine WC.condF rfl (WC.skip (U (D rfl rfl (WS.opV (.int .i64 (((i + 1) : Nat) : Int)) rfl rfl (add_i64 (a := i) (b := 1) (by omega)) (D rfl rfl (G [(1, _), (2, _), (4, _), (6, _), (7, _), (8, _)] rfl ?_))))))
      refine ⟨(P_, c_, S_, t, n, i + 1), rfl, ⟨((((M11.bare.focus 2 rfl).focus 2 rfl).focus 2 rfl).take 3), ?_⟩, ?_⟩
      · exact ⟨hR_, by first | (rw [if_pos e18] at hE ⊢; exact hE) | (rw [if_neg e18] at hE ⊢; rw [fold_snoc hy22, ← hE]; unfold endS; rw [if_neg (fun q => e26 (congrArg UInt64.toNat q))]), by omega, by omega, by omega, by omega⟩
      · simp only []; omega
    ·
     refine D rfl rfl (WS.off rfl (WS.off rfl (WS.off rfl (WS.off rfl (WS.off rfl (WS.off rfl (WS.off rfl (D rfl rfl (G [(1, _), (2, _), (4, _), (6, _), (7, _), (8, _), (27, _)] rfl ?_)))))))))
     refine WC.condF rfl (WC.skip (U (D rfl rfl (WS.opV (.int .i64 (((i + 1) : Nat) : Int)) rfl rfl (add_i64 (a := i) (b := 1) (by omega)) (D rfl rfl (G [(1, _), (2, _), (4, _), (6, _), (7, _), (8, _)] rfl ?_))))))
     refine ⟨(P_, c_, S_, t, n, i + 1), rfl, ⟨((((M11.bare.focus 2 rfl).focus 2 rfl).focus 2 rfl).take 3), ?_⟩, ?_⟩
     · exact ⟨hR_, by first | (rw [if_pos e18] at hE ⊢; exact hE) | (rw [if_neg e18] at hE ⊢; rw [fold_snoc hy22, ← hE]; unfold endS; rw [if_neg (fun q => e26 (congrArg UInt64.toNat q))]), by omega, by omega, by omega, by omega⟩
     · simp only []; omega
   ·
    refine G [(1, _), (2, _), (4, _), (6, _), (7, _), (8, _), (14, _)] rfl ?_
    refine WC.condF rfl (WC.exit ?_)
    refine J (U (D rfl (op_lds [_, _, _, _] (M11.at 1 rfl) rfl (C rfl) rfl) (D rfl rfl ?_)))
    refine WS.st1 (M11.focus 2 rfl) [_, _, _, _] [_, _, _, _] rfl rfl rfl rfl rfl (C rfl) (C rfl) rfl rfl ?_
    intro h28 M29
    replace M29 : Mem _ _ ([(p4, _)] :: S_ :: [(p1, _)] :: []) _ := M29
    refine D rfl rfl (G [(4, _), (5, _)] rfl ?_)
    refine WC.ret (⟨[_, _], (res_cellN [_, _, _, _] rfl (M29.at 0 rfl) (C rfl) rfl (res_tmp rfl res_nil)), ?_⟩)
    have e : endK s ls = (t, n) := by unfold endK; rw [hE, List.take_of_length_le (by omega)]
    rw [e]
    exact ⟨_, _, rfl, hR_, ((M29.bare.focus 1 rfl).take 1)⟩
end Go.Proofs.Ytkfjlbdedjoojaa.Wt
namespace Go.Proofs.Ytkfjlbdedjoojaa.Wt
open Go Go.Proofs.Ytkfjlbdedjoojaa.Am Go.Proofs.Ytkfjlbdedjoojaa.IrAll
open Nat renaming le_of_ble_eq_true → C
open Go.Proofs.Ytkfjlbdedjoojaa.Am.WS renaming op → D
set_option linter.unusedVariables false
set_option linter.unusedSimpArgs false
variable {h base h2 : H} {L : List Seg} {R : List Nat}
set_option maxRecDepth 8000 in
set_option maxHeartbeats 2000000 in
theorem said_ran (W : Mem h h [] []) {V : Value} {s : KS} {a : Ac} (A : KIt.Sl h V s.F) (hf : KFit s 1700 1000000 30000) (hA : OkA a) (hQa : KPtI.Sl h a.sv a.ps) : Cll tab0 20 [.agg #[V, .int .i64 (s.K : Int), .int .i64 (s.M : Int), .int .u64 (s.v : Int)], .agg (Ac.cells a).toArray] h (fun u h2 => ∃ V' S Vr Sr, u = .tuple #[.agg #[V', .int .i64 ((doK s a).1.K : Int), .int .i64 ((doK s a).1.M : Int), .int .u64 ((doK s a).1.v : Int)], .int .i64 (doK s a).2.1, Vr] ∧ OutR V V' s.F (doK s a).1.F S ∧ (∀ hh : H, (∀ q ∈ Sr, hh.get q.1 = some q.2) → KRwI.Sl hh Vr (doK s a).2.2) ∧ Mem h h2 [Sr, S] []) := by
  obtain ⟨Pl, nl, rfl⟩ := A.shape
  have hok := hf.good.ok
  have hN : s.F.length ≤ 800000 := Nat.le_trans hf.n (by omega)
  have hV : s.v < 18446744073709551615 := Nat.lt_of_le_of_lt hf.v (by omega)
  have hl1 : a.ky.length ≤ 1000000 := Nat.le_trans hA.1 (by omega)
  have hl2 : a.va.length ≤ 1000000 := Nat.le_trans hA.2.1 (by omega)
  have hps := put_small s a.ky a.va a.ls; have hbs := bat_small s a.ps; have hds := del_small s a.ky
  have hz := hf.z; have hn8 := hf.n; have hvm := hf.v; have hp10 := hA.2.2.1
  refine Cll.code rfl rfl ?_
  refine WC.env [(0, _), (1, _)] rfl ?_
  refine WC.seq (WC.run (WS.box W [_, _, _, _] rfl rfl rfl rfl ?_))
  intro p1 h2 M3
  refine WS.box M3 [_, _, _, _, _, _] rfl rfl rfl rfl ?_
  intro p4 h5 M6
  refine WS.new M6 rfl ?_
  intro p7 h8 M9
  refine D rfl rfl (D rfl rfl (WS.nil [(2, _), (3, _), (4, _)] rfl ?_))
  refine WC.seq (WC.seq (WC.run (D rfl rfl (D rfl (op_ld (M9.at 1 rfl) rfl rfl) (WS.nil [(2, _), (3, _), (4, _), (18, _)] rfl ?_)))))
  refine WC.block (WC.seq (WC.run (WS.eqlN (a := (a.d).toNat) (b := 0) rfl rfl rfl (fun e20 => ?_) (fun e20 => ?_))))
  ·
   refine D rfl rfl (WS.nil [(2, _), (3, _), (4, _), (18, _), (19, _)] rfl ?_)
   refine WC.condT rfl (WC.seq (WC.run (D rfl (op_lds [_, _, _, _] (M9.at 2 rfl) rfl (C rfl) rfl) (D rfl rfl (D rfl (op_ld (M9.at 1 rfl) rfl rfl) (D rfl rfl (D rfl (op_ld (M9.at 1 rfl) rfl rfl) (D rfl rfl (D rfl (op_ld (M9.at 1 rfl) rfl rfl) ?_)))))))))
   refine WS.call rfl rfl rfl (rPut_ran M9.here (s := s) (A.mono M9.sub) (key := a.ky) (val := a.va) (ls := a.ls) hok hN hl1 hl2 hV) ?_
   rintro _ h10 ⟨V13, S14, rfl, hR15, N11⟩
   obtain ⟨P16, c17, rfl⟩ := hR15.shape (A.mono M9.sub)
   have M12 := M9.trans N11
   replace M12 : Mem _ _ (S14 :: [(p7, _)] :: [(p4, _)] :: [(p1, _)] :: []) _ := M12
   refine D rfl rfl (D rfl rfl (D rfl rfl ?_))
   refine WS.new M12 rfl ?_
   intro p18 h19 M20
   refine WS.st1 (M20.focus 0 rfl) [_, _, _, _] [_, _, _, _] rfl rfl rfl rfl rfl (C rfl) (C rfl) rfl rfl ?_
   intro h21 M22
   replace M22 : Mem _ _ ([(p18, _)] :: S14 :: [(p7, _)] :: [(p4, _)] :: [(p1, _)] :: []) _ := M22
   refine D rfl rfl (WS.nil [(4, _), (7, _), (8, _)] rfl ?_)
   refine WC.seq (WC.run (D rfl (op_lds [_, _, _, _] (M22.at 0 rfl) rfl (C rfl) rfl) (D rfl rfl (WS.opV (.int .i64 (((putK s a.ky a.va a.ls).2 : Nat) : Int)) rfl rfl (cv_i64 (n := (putK s a.ky a.va a.ls).2) (by have := put_small s a.ky a.va a.ls; omega)) ?_))))
   refine WS.st1 (M22.focus 2 rfl) [_, _, _, _] [_, _, _, _] rfl rfl rfl rfl rfl (C rfl) (C rfl) rfl rfl ?_
   intro h23 M24
   replace M24 : Mem _ _ ([(p7, _)] :: [(p18, _)] :: S14 :: [(p4, _)] :: [(p1, _)] :: []) _ := M24
   refine D rfl rfl (D rfl rfl (WS.nil [(4, _), (5, _), (6, _)] rfl ?_))
   refine WC.ret (⟨[_, _, _], (res_cellN [_, _, _, _] rfl (M24.at 0 rfl) (C rfl) rfl (res_tmp rfl (res_tmp rfl res_nil))), ?_⟩)
   have e : doK s a = ((putK s a.ky a.va a.ls).1, (((putK s a.ky a.va a.ls).2 : Nat) : Int), []) := by unfold doK; first | exact if_pos e20 | (rw [if_neg e20]; first | exact if_pos e36 | (rw [if_neg e36]; first | exact if_pos e48 | (rw [if_neg e48]; first | exact if_pos e60 | (rw [if_neg e60]; first | (rw [if_pos e71]; first | (rw [if_pos hb1, findI_row hb1, ← findI_get]; done) | (rw [if_neg (by rw [hb1]; decide), show getR s.F a.ky = ⟨[], [], 0⟩ from if_neg (by rw [hb1]; decide)]; done)) | (rw [if_neg e71]; first | exact if_pos e99 | exact if_neg e99)))))
   rw [e]
   exact ⟨_, _, _, [], rfl, hR15, (fun hh q => .nil), (((M24.bare.focus 2 rfl).take 1)).nils⟩
  ·
   refine D rfl rfl (WS.nil [(2, _), (3, _), (4, _), (18, _), (19, _)] rfl ?_)
   refine WC.condF rfl (WC.seq (WC.run (WS.eqlN (a := (a.d).toNat) (b := 1) rfl rfl rfl (fun e36 => ?_) (fun e36 => ?_))))
   ·
    refine D rfl rfl (WS.nil [(2, _), (3, _), (4, _), (18, _), (35, _)] rfl ?_)
    refine WC.condT rfl (WC.seq (WC.run (D rfl (op_lds [_, _, _, _] (M9.at 2 rfl) rfl (C rfl) rfl) (D rfl rfl (D rfl (op_ld (M9.at 1 rfl) rfl rfl) ?_)))))
    refine WS.call rfl rfl rfl (rDelete_ran M9.here (s := s) (A.mono M9.sub) (key := a.ky) hN hV) ?_
    rintro _ h25 ⟨V28, S29, rfl, hR30, N26⟩
    obtain ⟨P31, c32, rfl⟩ := hR30.shape (A.mono M9.sub)
    have M27 := M9.trans N26
    replace M27 : Mem _ _ (S29 :: [(p7, _)] :: [(p4, _)] :: [(p1, _)] :: []) _ := M27
    refine D rfl rfl (D rfl rfl (D rfl rfl ?_))
    refine WS.new M27 rfl ?_
    intro p33 h34 M35
    refine WS.st1 (M35.focus 0 rfl) [_, _, _, _] [_, _, _, _] rfl rfl rfl rfl rfl (C rfl) (C rfl) rfl rfl ?_
    intro h36 M37
    replace M37 : Mem _ _ ([(p33, _)] :: S29 :: [(p7, _)] :: [(p4, _)] :: [(p1, _)] :: []) _ := M37
    refine D rfl rfl (WS.nil [(4, _), (9, _), (10, _)] rfl ?_)
    refine WC.seq (WC.run (D rfl (op_lds [_, _, _, _] (M37.at 0 rfl) rfl (C rfl) rfl) (D rfl rfl (WS.opV (.int .i64 (((delK s a.ky).2 : Nat) : Int)) rfl rfl (cv_i64 (n := (delK s a.ky).2) (by have := del_small s a.ky; omega)) ?_))))
    refine WS.st1 (M37.focus 2 rfl) [_, _, _, _] [_, _, _, _] rfl rfl rfl rfl rfl (C rfl) (C rfl) rfl rfl ?_
    intro h38 M39
    replace M39 : Mem _ _ ([(p7, _)] :: [(p33, _)] :: S29 :: [(p4, _)] :: [(p1, _)] :: []) _ := M39
    refine D rfl rfl (D rfl rfl (WS.nil [(4, _), (5, _), (6, _)] rfl ?_))
    refine WC.ret (⟨[_, _, _], (res_cellN [_, _, _, _] rfl (M39.at 0 rfl) (C rfl) rfl (res_tmp rfl (res_tmp rfl res_nil))), ?_⟩)
    have e : doK s a = ((delK s a.ky).1, (((delK s a.ky).2 : Nat) : Int), []) := by unfold doK; first | exact if_pos e20 | (rw [if_neg e20]; first | exact if_pos e36 | (rw [if_neg e36]; first | exact if_pos e48 | (rw [if_neg e48]; first | exact if_pos e60 | (rw [if_neg e60]; first | (rw [if_pos e71]; first | (rw [if_pos hb1, findI_row hb1, ← findI_get]; done) | (rw [if_neg (by rw [hb1]; decide), show getR s.F a.ky = ⟨[], [], 0⟩ from if_neg (by rw [hb1]; decide)]; done)) | (rw [if_neg e71]; first | exact if_pos e99 | exact if_neg e99)))))
    rw [e]
    exact ⟨_, _, _, [], rfl, hR30, (fun hh q => .nil), (((M39.bare.focus 2 rfl).take 1)).nils⟩
   ·
    refine D rfl rfl (WS.nil [(2, _), (3, _), (4, _), (18, _), (35, _)] rfl ?_)
    refine WC.condF rfl (WC.seq (WC.run (WS.eqlN (a := (a.d).toNat) (b := 2) rfl rfl rfl (fun e48 => ?_) (fun e48 => ?_))))
    ·
     refine D rfl rfl (WS.nil [(2, _), (3, _), (4, _), (18, _), (47, _)] rfl ?_)
     refine WC.condT rfl (WC.seq (WC.run (D rfl (op_lds [_, _, _, _] (M9.at 2 rfl) rfl (C rfl) rfl) (D rfl rfl (D rfl (op_ld (M9.at 1 rfl) rfl rfl) ?_)))))
     refine WS.call rfl rfl rfl (rBatch_ran M9.here (s := s) (A.mono M9.sub) (hQa.mono M9.sub) hok (by omega) (by omega) (fun x hx => ⟨Nat.le_trans (hA.2.2.2 x hx).1 (by omega), Nat.le_trans (hA.2.2.2 x hx).2 (by omega)⟩)) ?_
     rintro _ h40 ⟨V43, S44, rfl, hR45, N41⟩
     obtain ⟨P46, c47, rfl⟩ := hR45.shape (A.mono M9.sub)
     have M42 := M9.trans N41
     replace M42 : Mem _ _ (S44 :: [(p7, _)] :: [(p4, _)] :: [(p1, _)] :: []) _ := M42
     refine D rfl rfl (D rfl rfl (D rfl rfl ?_))
     refine WS.new M42 rfl ?_
     intro p48 h49 M50
     refine WS.st1 (M50.focus 0 rfl) [_, _, _, _] [_, _, _, _] rfl rfl rfl rfl rfl (C rfl) (C rfl) rfl rfl ?_
     intro h51 M52
     replace M52 : Mem _ _ ([(p48, _)] :: S44 :: [(p7, _)] :: [(p4, _)] :: [(p1, _)] :: []) _ := M52
     refine D rfl rfl (WS.nil [(4, _), (11, _), (12, _)] rfl ?_)
     refine WC.seq (WC.run (D rfl (op_lds [_, _, _, _] (M52.at 0 rfl) rfl (C rfl) rfl) (D rfl rfl (WS.opV (.int .i64 (((batK s a.ps).2 : Nat) : Int)) rfl rfl (cv_i64 (n := (batK s a.ps).2) (by have := bat_small s a.ps; omega)) ?_))))
     refine WS.st1 (M52.focus 2 rfl) [_, _, _, _] [_, _, _, _] rfl rfl rfl rfl rfl (C rfl) (C rfl) rfl rfl ?_
     intro h53 M54
     replace M54 : Mem _ _ ([(p7, _)] :: [(p48, _)] :: S44 :: [(p4, _)] :: [(p1, _)] :: []) _ := M54
     refine D rfl rfl (D rfl rfl (WS.nil [(4, _), (5, _), (6, _)] rfl ?_))
     refine WC.ret (⟨[_, _, _], (res_cellN [_, _, _, _] rfl (M54.at 0 rfl) (C rfl) rfl (res_tmp rfl (res_tmp rfl res_nil))), ?_⟩)
     have e : doK s a = ((batK s a.ps).1, (((batK s a.ps).2 : Nat) : Int), []) := by unfold doK; first | exact if_pos e20 | (rw [if_neg e20]; first | exact if_pos e36 | (rw [if_neg e36]; first | exact if_pos e48 | (rw [if_neg e48]; first | exact if_pos e60 | (rw [if_neg e60]; first | (rw [if_pos e71]; first | (rw [if_pos hb1, findI_row hb1, ← findI_get]; done) | (rw [if_neg (by rw [hb1]; decide), show getR s.F a.ky = ⟨[], [], 0⟩ from if_neg (by rw [hb1]; decide)]; done)) | (rw [if_neg e71]; first | exact if_pos e99 | exact if_neg e99)))))
     rw [e]
     exact ⟨_, _, _, [], rfl, hR45, (fun hh q => .nil), (((M54.bare.focus 2 rfl).take 1)).nils⟩
    ·
     refine D rfl rfl (WS.nil [(2, _), (3, _), (4, _), (18, _), (47, _)] rfl ?_)
     refine WC.condF rfl (WC.seq (WC.run (WS.eqlN (a := (a.d).toNat) (b := 3) rfl rfl rfl (fun e60 => ?_) (fun e60 => ?_))))
     ·
      refine D rfl rfl (WS.nil [(2, _), (3, _), (4, _), (18, _), (59, _)] rfl ?_)
      refine WC.condT rfl (WC.seq (WC.run (D rfl (op_lds [_, _, _, _] (M9.at 2 rfl) rfl (C rfl) rfl) (D rfl rfl (D rfl (op_ld (M9.at 1 rfl) rfl rfl) ?_)))))
      refine WS.call rfl rfl rfl (rEnd_ran M9.here (s := s) (A.mono M9.sub) (ls := a.ls) hok hN (by omega)) ?_
      rintro _ h55 ⟨V58, S59, rfl, hR60, N56⟩
      obtain ⟨P61, c62, rfl⟩ := hR60.shape (A.mono M9.sub)
      have M57 := M9.trans N56
      replace M57 : Mem _ _ (S59 :: [(p7, _)] :: [(p4, _)] :: [(p1, _)] :: []) _ := M57
      refine D rfl rfl (D rfl rfl (D rfl rfl ?_))
      refine WS.new M57 rfl ?_
      intro p63 h64 M65
      refine WS.st1 (M65.focus 0 rfl) [_, _, _, _] [_, _, _, _] rfl rfl rfl rfl rfl (C rfl) (C rfl) rfl rfl ?_
      intro h66 M67
      replace M67 : Mem _ _ ([(p63, _)] :: S59 :: [(p7, _)] :: [(p4, _)] :: [(p1, _)] :: []) _ := M67
      refine D rfl rfl (WS.nil [(4, _), (13, _), (14, _)] rfl ?_)
      refine WC.seq (WC.run (D rfl (op_lds [_, _, _, _] (M67.at 0 rfl) rfl (C rfl) rfl) (D rfl rfl ?_)))
      refine WS.st1 (M67.focus 2 rfl) [_, _, _, _] [_, _, _, _] rfl rfl rfl rfl rfl (C rfl) (C rfl) rfl rfl ?_
      intro h68 M69
      replace M69 : Mem _ _ ([(p7, _)] :: [(p63, _)] :: S59 :: [(p4, _)] :: [(p1, _)] :: []) _ := M69
      refine D rfl rfl (D rfl rfl (WS.nil [(4, _), (5, _), (6, _)] rfl ?_))
      refine WC.ret (⟨[_, _, _], (res_cellN [_, _, _, _] rfl (M69.at 0 rfl) (C rfl) rfl (res_tmp rfl (res_tmp rfl res_nil))), ?_⟩)
      have e : doK s a = ((endK s a.ls).1, (((endK s a.ls).2 : Nat) : Int), []) := by unfold doK; first | exact if_pos e20 | (rw [if_neg e20]; first | exact if_pos e36 | (rw [if_neg e36]; first | exact if_pos e48 | (rw [if_neg e48]; first | exact if_pos e60 | (rw [if_neg e60]; first | (rw [if_pos e71]; first | (rw [if_pos hb1, findI_row hb1, ← findI_get]; done) | (rw [if_neg (by rw [hb1]; decide), show getR s.F a.ky = ⟨[], [], 0⟩ from if_neg (by rw [hb1]; decide)]; done)) | (rw [if_neg e71]; first | exact if_pos e99 | exact if_neg e99)))))
      rw [e]
      exact ⟨_, _, _, [], rfl, hR60, (fun hh q => .nil), (((M69.bare.focus 2 rfl).take 1)).nils⟩
     ·
      refine D rfl rfl (WS.nil [(2, _), (3, _), (4, _), (18, _), (59, _)] rfl ?_)
      refine WC.condF rfl (WC.seq (WC.run (WS.eqlN (a := (a.d).toNat) (b := 4) rfl rfl rfl (fun e71 => ?_) (fun e71 => ?_))))
      ·
       refine D rfl rfl (WS.nil [(2, _), (3, _), (4, _), (18, _), (70, _)] rfl ?_)
       refine WC.condT rfl (WC.seq (WC.run (D rfl rfl (D rfl (op_ld (M9.at 2 rfl) rfl rfl) (D rfl rfl (D rfl (op_ld (M9.at 1 rfl) rfl rfl) ?_))))))
       refine WS.call rfl rfl rfl (Find_ran M9.here (key := a.ky) (A.mono M9.sub) (by omega)) ?_
       rintro _ h70 ⟨rfl, N71⟩
       have M72 := M9.trans N71
       refine D rfl rfl (D rfl rfl (D rfl rfl ?_))
       refine WS.new M72 rfl ?_
       intro p73 h74 M75
       refine WS.st1 (M75.focus 0 rfl) [_, _, _, _] [_, _, _, _] rfl rfl rfl rfl rfl (C rfl) (C rfl) rfl rfl ?_
       intro h76 M77
       replace M77 : Mem _ _ ([(p73, _)] :: [(p7, _)] :: [(p4, _)] :: [(p1, _)] :: []) _ := M77
       refine D rfl rfl (WS.nil [(2, _), (4, _), (15, _), (16, _)] rfl ?_)
       refine WC.seq (WC.seq (WC.run (D rfl rfl ?_)))
       cases hb1 : (getV s.F a.ky).2
       ·
        refine WS.opV (.bool true) rfl rfl rfl (WS.nil [(2, _), (4, _), (15, _), (81, _)] rfl ?_)
        refine WC.condT rfl (WC.seq (WC.run (D rfl (op_lds [_, _, _, _] (M77.at 3 rfl) rfl (C rfl) rfl) (WS.opV (.agg #[(.string (bs ([]))), (.string (bs ([]))), (.int .u64 (0 : Int))]) rfl rfl rfl ?_))))
        refine WS.bsl M77 [_, _, _] rfl rfl rfl rfl ?_
        intro p78 h79 M80
        refine WS.st1 (M80.focus 2 rfl) [_, _, _, _] [_, _, _, _] rfl rfl rfl rfl rfl (C rfl) (C rfl) rfl rfl ?_
        intro h81 M82
        replace M82 : Mem _ _ ([(p7, _)] :: [(p78, _)] :: [(p73, _)] :: [(p4, _)] :: [(p1, _)] :: []) _ := M82
        refine D rfl rfl (D rfl rfl (WS.nil [(4, _), (5, _), (6, _)] rfl ?_))
        refine WC.ret (⟨[_, _, _], (res_cellN [_, _, _, _] rfl (M82.at 0 rfl) (C rfl) rfl (res_tmp rfl (res_tmp rfl res_nil))), ?_⟩)
        have e : doK s a = (s, -1, [(⟨[], [], 0⟩ : RwI)]) := by unfold doK; first | exact if_pos e20 | (rw [if_neg e20]; first | exact if_pos e36 | (rw [if_neg e36]; first | exact if_pos e48 | (rw [if_neg e48]; first | exact if_pos e60 | (rw [if_neg e60]; first | (rw [if_pos e71]; first | (rw [if_pos hb1, findI_row hb1, ← findI_get]; done) | (rw [if_neg (by rw [hb1]; decide), show getR s.F a.ky = ⟨[], [], 0⟩ from if_neg (by rw [hb1]; decide)]; done)) | (rw [if_neg e71]; first | exact if_pos e99 | exact if_neg e99)))))
        rw [e]
        exact ⟨_, _, _, _, rfl, (.inl ⟨rfl, rfl, rfl⟩), (fun hh q => sl_all (K := KRwI) (l := [(⟨[], [], 0⟩ : RwI)]) (c := _) (by rw [KRwI.flat_one]; exact q _ (List.mem_singleton.2 rfl))), (((M82.bare.focus 1 rfl).take 1)).nils.focus 1 rfl⟩
       ·
        refine WS.opV (.bool false) rfl rfl rfl (WS.nil [(2, _), (4, _), (15, _), (81, _)] rfl ?_)
        refine WC.condF rfl (WC.skip (WC.seq (WC.draw M77 [12] rfl ?_)))
        intro rb83 h84 M85
        refine D rfl (op_lds [_, _, _, _] (M85.at 3 rfl) rfl (C rfl) rfl) (D rfl rfl (D rfl (op_ld (M85.at 0 rfl) rfl rfl) (WS.opV (.int .u64 (((findI s.F a.ky).ls.toNat % 65536 : Nat) : Int)) rfl rfl (and65535 (UInt64.toNat_lt _)) (WS.opV (.int .i64 ((((findI s.F a.ky).ls.toNat % 65536) : Nat) : Int)) rfl rfl (cv_i64 (n := ((findI s.F a.ky).ls.toNat % 65536)) (by omega)) (D rfl rfl (D rfl (op_ld (M85.at 0 rfl) rfl rfl) (D rfl rfl (D rfl (op_ld (M85.at 0 rfl) rfl rfl) (D rfl rfl ?_)))))))))
        refine D rfl (op_ld (M85.at 0 rfl) rfl rfl) (WS.opV (.agg #[(.string (bs ((findI s.F a.ky).ky))), (.string (bs ((findI s.F a.ky).va))), (.int .u64 ((((findI s.F a.ky).vn).toNat : Nat) : Int))]) rfl rfl rfl ?_)
        refine WS.st1 (M85.focus 1 rfl) [_, _, _, _] [_, _, _, _] rfl rfl rfl rfl rfl (C rfl) (C rfl) rfl rfl ?_
        intro h86 M87
        replace M87 : Mem _ _ ([(p7, _)] :: [(p73, _)] :: [(p4, _)] :: [(p1, _)] :: []) _ := M87
        refine WS.chk rfl (op_ld (M87.at 1 rfl) rfl rfl) rfl (sameV_refl rfl) (WS.chk rfl (op_ld (M87.at 1 rfl) rfl rfl) rfl (sameV_refl rfl) (WS.chk rfl (op_ld (M87.at 1 rfl) rfl rfl) rfl (sameV_refl rfl) (WS.chk rfl (op_ld (M87.at 1 rfl) rfl rfl) rfl (sameV_refl rfl) (D rfl rfl ?_))))
        refine WS.bslA M87 [_, _, _] 0 rfl rfl rfl rfl rfl ?_
        intro h89 M90
        refine D rfl rfl (WS.nil [(4, _), (5, _), (6, _)] rfl ?_)
        refine WC.ret (⟨[_, _, _], (res_cellN [_, _, _, _] rfl (M90.bare.at 1 rfl) (C rfl) rfl (res_tmp rfl (res_tmp rfl res_nil))), ?_⟩)
        have e : doK s a = (s, (((findI s.F a.ky).ls.toNat % 65536 : Nat) : Int), [toRw (findI s.F a.ky)]) := by unfold doK; first | exact if_pos e20 | (rw [if_neg e20]; first | exact if_pos e36 | (rw [if_neg e36]; first | exact if_pos e48 | (rw [if_neg e48]; first | exact if_pos e60 | (rw [if_neg e60]; first | (rw [if_pos e71]; first | (rw [if_pos hb1, findI_row hb1, ← findI_get]; done) | (rw [if_neg (by rw [hb1]; decide), show getR s.F a.ky = ⟨[], [], 0⟩ from if_neg (by rw [hb1]; decide)]; done)) | (rw [if_neg e71]; first | exact if_pos e99 | exact if_neg e99)))))
        rw [e]
        exact ⟨_, _, _, _, rfl, (.inl ⟨rfl, rfl, rfl⟩), (fun hh q => sl_all (K := KRwI) (l := [toRw (findI s.F a.ky)]) (c := _) (by rw [KRwI.flat_one]; exact q _ (List.mem_singleton.2 rfl))), (((M90.bare.bare.focus 0 rfl).take 1)).nils.focus 1 rfl⟩
      ·
       refine D rfl rfl (WS.nil [(2, _), (3, _), (4, _), (18, _), (70, _)] rfl ?_)
       refine WC.condF rfl (WC.seq (WC.run (WS.eqlN (a := (a.d).toNat) (b := 5) rfl rfl rfl (fun e99 => ?_) (fun e99 => ?_))))
       ·
        refine D rfl rfl (WS.nil [(2, _), (3, _), (4, _), (98, _)] rfl ?_)
        refine WC.condT rfl (WC.seq (WC.draw M9 [] rfl ?_))
        intro rb91 h92 M93
        refine D rfl (op_lds [_, _, _, _] (M93.at 2 rfl) rfl (C rfl) rfl) (D rfl (op_lds [_, _, _, _] (M93.at 2 rfl) rfl (C rfl) rfl) (D rfl rfl (D rfl (op_ld (M93.at 1 rfl) rfl rfl) (D rfl rfl (D rfl (op_ld (M93.at 1 rfl) rfl rfl) (D rfl rfl (D rfl (op_ld (M93.at 1 rfl) rfl rfl) ?_)))))))
        refine WS.call rfl rfl rfl (rRange_ran M93.here (fr := a.ky) (to := a.va) (most := (a.n).toInt) (A.mono M93.sub) (by omega)) ?_
        rintro V97 h94 ⟨S98, O99, N95⟩
        obtain ⟨P100, rfl⟩ := O99.shape
        have M96 := M93.trans N95
        replace M96 : Mem _ _ (S98 :: [(p7, _)] :: [(p4, _)] :: [(p1, _)] :: []) _ := M96
        refine WS.chk rfl (op_lds [_, _, _, _] (M96.at 3 rfl) rfl (C rfl) rfl) rfl (same_agg rfl) ?_
        refine WS.st1 (M96.focus 1 rfl) [_, _, _, _] [_, _, _, _] rfl rfl rfl rfl rfl (C rfl) (C rfl) rfl rfl ?_
        intro h101 M102
        replace M102 : Mem _ _ ([(p7, _)] :: S98 :: [(p4, _)] :: [(p1, _)] :: []) _ := M102
        refine D rfl rfl (D rfl rfl (WS.nil [(4, _), (5, _), (6, _)] rfl ?_))
        refine WC.ret (⟨[_, _, _], (res_cellN [_, _, _, _] rfl (M102.bare.at 0 rfl) (C rfl) rfl (res_tmp rfl (res_tmp rfl res_nil))), ?_⟩)
        have e : doK s a = (s, 0, (rangeF s.F a.ky a.va a.n.toInt).map toRw) := by unfold doK; first | exact if_pos e20 | (rw [if_neg e20]; first | exact if_pos e36 | (rw [if_neg e36]; first | exact if_pos e48 | (rw [if_neg e48]; first | exact if_pos e60 | (rw [if_neg e60]; first | (rw [if_pos e71]; first | (rw [if_pos hb1, findI_row hb1, ← findI_get]; done) | (rw [if_neg (by rw [hb1]; decide), show getR s.F a.ky = ⟨[], [], 0⟩ from if_neg (by rw [hb1]; decide)]; done)) | (rw [if_neg e71]; first | exact if_pos e99 | exact if_neg e99)))))
        rw [e]
        exact ⟨_, _, _, _, rfl, (.inl ⟨rfl, rfl, rfl⟩), (fun hh q => Row.Own.sl O99 q), (((M102.bare.bare.focus 1 rfl).take 1)).nils.focus 1 rfl⟩
       ·
        refine D rfl rfl (WS.nil [(2, _), (3, _), (4, _), (98, _)] rfl ?_)
        refine WC.condF rfl (WC.skip (WC.seq (WC.run (D rfl (op_lds [_, _, _, _] (M9.at 2 rfl) rfl (C rfl) rfl) ?_))))
        refine WS.st1 (M9.focus 0 rfl) [_, _, _, _] [_, _, _, _] rfl rfl rfl rfl rfl (C rfl) (C rfl) rfl rfl ?_
        intro h103 M104
        replace M104 : Mem _ _ ([(p7, _)] :: [(p4, _)] :: [(p1, _)] :: []) _ := M104
        refine D rfl rfl (D rfl rfl (WS.nil [(4, _), (5, _), (6, _)] rfl ?_))
        refine WC.ret (⟨[_, _, _], (res_cellN [_, _, _, _] rfl (M104.at 0 rfl) (C rfl) rfl (res_tmp rfl (res_tmp rfl res_nil))), ?_⟩)
        have e : doK s a = (s, 0, []) := by unfold doK; first | exact if_pos e20 | (rw [if_neg e20]; first | exact if_pos e36 | (rw [if_neg e36]; first | exact if_pos e48 | (rw [if_neg e48]; first | exact if_pos e60 | (rw [if_neg e60]; first | (rw [if_pos e71]; first | (rw [if_pos hb1, findI_row hb1, ← findI_get]; done) | (rw [if_neg (by rw [hb1]; decide), show getR s.F a.ky = ⟨[], [], 0⟩ from if_neg (by rw [hb1]; decide)]; done)) | (rw [if_neg e71]; first | exact if_pos e99 | exact if_neg e99)))))
        rw [e]
        exact ⟨_, _, _, [], rfl, (.inl ⟨rfl, rfl, rfl⟩), (fun hh q => .nil), (((M104.bare.take 0)).nils).nils⟩
end Go.Proofs.Ytkfjlbdedjoojaa.Wt
namespace Go.Proofs.Ytkfjlbdedjoojaa.Wt
open Go Go.Proofs.Ytkfjlbdedjoojaa.Am Go.Proofs.Ytkfjlbdedjoojaa.IrAll
open Go.Proofs.Ytkfjlbdedjoojaa.Am.WS renaming op → C
set_option linter.unusedVariables false
set_option linter.unusedSimpArgs false
variable {h base h2 : H} {L : List Seg} {R : List Nat}
set_option maxRecDepth 8000 in
set_option maxHeartbeats 4000000 in
theorem law_KvPlays (W : Mem h h [] []) {kz bz : Int64} {l : List Ac} {u0 u1 u2 : Value} (l0 : layI64 h kz [u0]) (l1 : layI64 h bz [u1]) (l2 : laySl layAct 6 h l [u2]) (k0 : True) (k1 : True) (k2 : l.length < 9223372036854775808 ∧ ∀ x ∈ l, x.ky.length < 9223372036854775808 ∧ x.va.length < 9223372036854775808 ∧ x.ps.length < 9223372036854775808 ∧ ∀ p ∈ x.ps, p.ky.length < 9223372036854775808 ∧ p.va.length < 9223372036854775808) : Cll tab0 4 [u0, u1, u2] h (fun v _ => v = .bool true) := by
  have hbl := k2.1
  have l0 : [u0] = [_] := l0
  cases l0
  have l1 : [u1] = [_] := l1
  cases l1
  obtain ⟨V2, hV2, S2⟩ := l2
  cases hV2
  obtain ⟨A, hQl⟩ := SlL.acts S2
  obtain ⟨P, c, rfl⟩ := A.shape
  refine Cll.code rfl rfl ?_
  refine WC.env [(0, _), (1, _), (2, _)] rfl ?_
  refine WC.seq (WC.run (C rfl rfl (WS.nil [(0, _), (1, _), (2, _)] rfl ?_)))
  refine WC.seq (WC.seq (WC.run (C rfl rfl ?_)))
  refine WS.call rfl rfl rfl (Great16_ran W.here (A.mono W.sub) (fun a ha => (hQl a ha).mono W.sub) hbl) ?_
  rintro _ h1 ⟨g17, rfl, hg17, N2⟩
  have M3 := W.trans N2
  refine WS.nil [(0, _), (1, _), (2, _), (17, _)] rfl ?_
  cases hb1 : g17
  ·
   refine WC.condF rfl (WC.skip (WC.seq (WC.run ?_)))
   obtain ⟨hl8, hOl, hsl⟩ := hg17 (by assumption)
   have hF1 := run_small (new_fit (kz).toInt (bz).toInt) hl8 (by omega) (by omega) (by omega) hOl hsl
   have hFA := (run_all (new_fit (kz).toInt (bz).toInt) hl8 hOl hsl).mono (n2 := 1700) (v2 := 1000000) (z2 := 30000) (by omega) (by omega) (by omega)
   refine C rfl rfl (C rfl rfl ?_)
   refine WS.call rfl rfl rfl (kNew_ran M3.bare) ?_
   rintro _ h4 ⟨x21, S6, rfl, G7, M5⟩
   replace M5 : Mem _ _ (S6 :: []) _ := M5
   refine C rfl rfl (WS.nil [(0, _), (1, _), (2, _), (7, _)] rfl ?_)
   refine WC.seq (WC.run (C rfl rfl (C rfl rfl ?_)))
   refine WS.call rfl rfl rfl (rNew_ran M5.here ) ?_
   rintro _ h8 ⟨rfl, N9⟩
   have M10 := M5.trans N9
   refine WS.new M10 rfl ?_
   intro p11 h12 M13
   refine WS.st1 (M13.focus 0 rfl) [_, _, _, _] [_, _, _, _] rfl rfl rfl rfl rfl (Nat.le_of_ble_eq_true rfl) (Nat.le_of_ble_eq_true rfl) rfl rfl ?_
   intro h14 M15
   replace M15 : Mem _ _ ([(p11, _)] :: S6 :: []) _ := M15
   refine WS.nil [(2, _), (7, _), (8, _)] rfl ?_
   refine WC.seq (WC.seq (WC.run (C rfl rfl (WS.nil [(2, _), (7, _), (8, _), (9, _)] rfl ?_))))
   refine WC.block ?_
   obtain ⟨L16, eL18, M17⟩ := Mem.name3 (((M15.bare.focus 0 rfl)).nils.focus 2 rfl)
   refine WC.loop (σ := Nat × Option Addr × Nat × Seg × Seg × Nat) (fun ((p, Q_, d_, S_, T_, i)) => [(2, (.slice P l.length c)), (7, (.pointer (some ⟨p, 0, none⟩))), (8, (.pointer (some ⟨p11, 0, none⟩))), (9, (.int .i64 ((i : Nat) : Int)))]) (fun ((p, Q_, d_, S_, T_, i)) hh => Mem h hh (S_ :: T_ :: [(p11, ⟨[(.slice Q_ (runK (⟨[], heldK (kz).toInt, heldK (bz).toInt, 0⟩ : KS) (l.take i)).F.length d_), (.int .i64 (((runK (⟨[], heldK (kz).toInt, heldK (bz).toInt, 0⟩ : KS) (l.take i)).K : Nat) : Int)), (.int .i64 (((runK (⟨[], heldK (kz).toInt, heldK (bz).toInt, 0⟩ : KS) (l.take i)).M : Nat) : Int)), (.int .u64 (((runK (⟨[], heldK (kz).toInt, heldK (bz).toInt, 0⟩ : KS) (l.take i)).v : Nat) : Int))], 0, false⟩)] :: L16) [] ∧ KvSt p (runK (⟨[], heldK (kz).toInt, heldK (bz).toInt, 0⟩ : KS) (l.take i)) S_ ∧ KIt.Own (.slice Q_ (runK (⟨[], heldK (kz).toInt, heldK (bz).toInt, 0⟩ : KS) (l.take i)).F.length d_) (runK (⟨[], heldK (kz).toInt, heldK (bz).toInt, 0⟩ : KS) (l.take i)).F T_ ∧ i ≤ l.length) (fun ((p, Q_, d_, S_, T_, i)) => l.length - i) (_, none, 0, _, _, 0) rfl ⟨(by exact M17), ?_⟩ ?_
   · exact ⟨by assumption, .nil, by omega⟩
   ·rintro ⟨p, Q_, d_, S_, T_, i⟩ h19 ⟨M20, ⟨G_, hO_, hi⟩⟩
    replace eL18 := eL18.symm; subst eL18
    refine WC.env [(2, _), (7, _), (8, _), (9, _)] rfl ?_
    refine WC.seq (WC.seq (WC.run (C rfl rfl (C rfl rfl (C rfl (op_lenVS A rfl) ?_)))))
    refine WS.lssN (a := i) (b := (l).length) rfl rfl rfl (fun e28 => ?_) (fun e28 => ?_)
    ·
     refine WS.nil [(2, _), (7, _), (8, _), (9, _), (28, _)] rfl ?_
     refine WC.condT rfl (WC.skip (WC.seq (WC.block (WC.seq (WC.run (C rfl rfl (C rfl rfl (WS.nil [(2, _), (7, _), (8, _), (9, _)] rfl ?_))))))))
     refine WC.seq (WC.run (C rfl rfl (C rfl rfl (WS.nil [(2, _), (7, _), (8, _), (9, _)] rfl ?_))))
     refine WC.seq (WC.run (C rfl rfl (C rfl rfl (C rfl rfl ?_))))
     obtain ⟨y35, hy35⟩ : ∃ y, (l)[i]? = some y := ⟨_, List.getElem?_eq_getElem (show i < (l).length by first | omega | (simp only [List.length_drop, List.length_take, List.length_append, List.length_cons, List.length_nil, List.length_singleton]; omega) | (simp only [List.length_drop, List.length_take, List.length_append, List.length_cons, List.length_nil, List.length_singleton] at *; omega))⟩
     refine WS.iaVS A i hy35 rfl rfl rfl rfl ?_
     intro b35_ o35_ ha35
     refine C rfl (op_ldAt rfl (ha35.mono M20.sub) rfl) ?_
     refine WS.call rfl rfl rfl (does_st (a := y35) G_ (M20.bare.focus 0 rfl) (hF1 i) (hOl _ (List.mem_of_getElem? hy35)) (hQl _ (List.mem_of_getElem? hy35))) ?_
     rintro _ h21 ⟨x23, S24, V25, S26, rfl, O27, G28, M22⟩
     replace M22 : Mem _ _ (S26 :: S24 :: T_ :: [(p11, _)] :: []) _ := M22
     have G29 : KvSt x23 (runK (⟨[], heldK (kz).toInt, heldK (bz).toInt, 0⟩ : KS) (l.take (i + 1))) S24 := by rw [run_snoc hy35]; exact G28
     refine C rfl rfl (C rfl rfl (C rfl rfl (C rfl rfl (C rfl rfl (C rfl rfl (C rfl rfl (WS.nil [(2, _), (7, _), (8, _), (9, _), (10, _), (12, _)] rfl ?_)))))))
     refine WC.seq (WC.draw M22 [] rfl ?_)
     intro rb30 h31 M32
     refine C rfl (op_lds [_, _, _, _] (M32.at 3 rfl) rfl (Nat.le_of_ble_eq_true rfl) rfl) (C rfl rfl (C rfl rfl ?_))
     refine WS.iaVS A i hy35 rfl rfl rfl rfl ?_
     intro b45_ o45_ ha45
     refine C rfl (op_ldAt rfl (ha45.mono M32.sub) rfl) ?_
     refine WS.call rfl rfl rfl (said_ran M32.here (s := (runK (⟨[], heldK (kz).toInt, heldK (bz).toInt, 0⟩ : KS) (l.take i))) (a := y35) (Row.Own.sl hO_ (Mem.owni M32 2 rfl)) (hF1 i) (hOl _ (List.mem_of_getElem? hy35)) ((hQl _ (List.mem_of_getElem? hy35)).mono M32.sub)) ?_
     rintro u36 h33 ⟨V38, S39, V40, S41, hu37, hR42, hW43, N34⟩
     rw [← run_snoc hy35] at hu37 hR42
     subst hu37
     obtain ⟨P44, c45, rfl⟩ := hR42.shape (Row.Own.sl hO_ (Mem.owni M32 2 rfl))
     have M35 := M32.trans N34
     replace M35 : Mem _ _ (S41 :: S39 :: S26 :: S24 :: T_ :: [(p11, _)] :: []) _ := M35
     have M46 := M35.focus 1 rfl
     replace M46 : Mem _ _ (S39 :: S41 :: S26 :: S24 :: T_ :: [(p11, _)] :: []) _ := M46
     obtain ⟨S48, O49, M47⟩ := OutR.own hO_ hR42 ((M46.focus 4 rfl).focus 1 rfl)
     replace M47 : Mem _ _ (S48 :: S41 :: S26 :: S24 :: [(p11, _)] :: []) _ := M47
     refine C rfl rfl (C rfl rfl (C rfl rfl (C rfl rfl ?_)))
     refine WS.st1 (M47.focus 4 rfl) [_, _, _, _] [_, _, _, _] rfl rfl rfl rfl rfl (Nat.le_of_ble_eq_true rfl) (Nat.le_of_ble_eq_true rfl) rfl rfl ?_
     intro h50 M51
     replace M51 : Mem _ _ ([(p11, _)] :: S48 :: S41 :: S26 :: S24 :: []) _ := M51
     refine C rfl rfl (C rfl rfl (WS.nil [(2, _), (7, _), (8, _), (9, _), (10, _), (11, _), (12, _), (13, _)] rfl ?_))
     refine WC.seq (WC.run (C rfl rfl ?_))
     refine WS.call rfl rfl rfl (kQuota_st  G29 (M51.bare.bare.focus 4 rfl) ) ?_
     rintro _ h52 ⟨rfl, S54, G55, M53⟩
     replace M53 : Mem _ _ (S54 :: [(p11, _)] :: S48 :: S41 :: S26 :: []) _ := M53
     refine C rfl rfl (C rfl rfl (C rfl rfl (C rfl rfl (C rfl rfl (WS.nil [(2, _), (7, _), (8, _), (9, _), (10, _), (11, _), (12, _), (13, _), (14, _), (15, _)] rfl ?_)))))
     refine WC.seq (WC.seq (WC.run (C rfl rfl (C rfl rfl (C rfl (op_ld (M53.at 1 rfl) rfl rfl) ?_)))))
     refine WS.neqN (a := (runK (⟨[], heldK (kz).toInt, heldK (bz).toInt, 0⟩ : KS) (l.take (i + 1))).K) (b := (runK (⟨[], heldK (kz).toInt, heldK (bz).toInt, 0⟩ : KS) (l.take (i + 1))).K) rfl rfl rfl (fun e59 => ?_) (fun e59 => ?_)
     ·
      exact absurd rfl e59
     ·
      refine C rfl rfl (C rfl rfl (C rfl rfl (C rfl (op_ld (M53.at 1 rfl) rfl rfl) ?_)))
      refine WS.neqN (a := (runK (⟨[], heldK (kz).toInt, heldK (bz).toInt, 0⟩ : KS) (l.take (i + 1))).M) (b := (runK (⟨[], heldK (kz).toInt, heldK (bz).toInt, 0⟩ : KS) (l.take (i + 1))).M) rfl rfl rfl (fun e64 => ?_) (fun e64 => ?_)
      ·
       exact absurd rfl e64
      ·
       refine C rfl rfl (WS.nil [(2, _), (7, _), (8, _), (9, _), (10, _), (11, _), (12, _), (13, _), (65, _)] rfl ?_)
       refine WC.condF rfl (WC.skip (WC.seq (WC.draw M53 [] rfl ?_)))
       intro rb56 h57 M58
       refine C rfl rfl (C rfl rfl ?_)
       refine WS.neq (a := (doK (runK (⟨[], heldK (kz).toInt, heldK (bz).toInt, 0⟩ : KS) (l.take i)) y35).2.1) (b := (doK (runK (⟨[], heldK (kz).toInt, heldK (bz).toInt, 0⟩ : KS) (l.take i)) y35).2.1) rfl rfl rfl (fun e68 => ?_) (fun e68 => ?_)
       ·
        exact absurd rfl e68
       ·
        refine C rfl rfl (C rfl rfl (C rfl rfl ?_))
        refine WS.call rfl rfl rfl (same_refl M58.here (O27 _ (Mem.owni M58 4 rfl)) (hW43 _ (Mem.owni M58 3 rfl)) (do_rows (fitN (hF1 i)))) ?_
        rintro _ h59 ⟨rfl, N60⟩
        have M61 := M58.trans N60
        refine WS.opV (.bool false) rfl rfl rfl (C rfl rfl (C rfl rfl (C rfl rfl (C rfl rfl (C rfl (op_ld (M61.at 1 rfl) rfl rfl) (C rfl (op_lenVO O49 rfl) ?_))))))
        refine WS.call rfl rfl rfl (kKeys_st  G55 (M61.bare.focus 0 rfl) ) ?_
        rintro _ h62 ⟨rfl, S64, G65, M63⟩
        replace M63 : Mem _ _ (S64 :: [(p11, _)] :: S48 :: S41 :: S26 :: []) _ := M63
        refine WS.chk rfl (op_ld (M63.at 1 rfl) rfl rfl) rfl (same_sl _ _ _) ?_
        refine WS.neqN (a := (runK (⟨[], heldK (kz).toInt, heldK (bz).toInt, 0⟩ : KS) (l.take (i + 1))).F.length) (b := ((runK (⟨[], heldK (kz).toInt, heldK (bz).toInt, 0⟩ : KS) (l.take (i + 1))).F).length) rfl rfl rfl (fun e81 => ?_) (fun e81 => ?_)
        ·
         exact absurd rfl e81
        ·
         refine C rfl rfl (C rfl rfl (C rfl rfl (C rfl rfl (C rfl (op_ld (M63.at 1 rfl) rfl rfl) ?_))))
         refine WS.call rfl rfl rfl (kBytes_st  G65 (M63.bare.focus 0 rfl) ) ?_
         rintro _ h66 ⟨rfl, S68, G69, M67⟩
         replace M67 : Mem _ _ (S68 :: [(p11, _)] :: S48 :: S41 :: S26 :: []) _ := M67
         refine WS.chk rfl (op_ld (M67.at 1 rfl) rfl rfl) rfl (same_sl _ _ _) ?_
         refine WS.call rfl rfl rfl (rSize_ran M67.here (Row.Own.sl O49 (Mem.owni M67 2 rfl)) (Nat.le_trans (fitN (hF1 (i + 1))) (by omega)) (Nat.le_trans (hF1 (i + 1)).good.ok.sz (Nat.le_trans (hF1 (i + 1)).good.ok.M (by omega)))) ?_
         rintro _ h70 ⟨rfl, N71⟩
         have M72 := M67.trans N71
         refine WS.neqN (a := (szF (runK (⟨[], heldK (kz).toInt, heldK (bz).toInt, 0⟩ : KS) (l.take (i + 1))).F)) (b := (szF ((runK (⟨[], heldK (kz).toInt, heldK (bz).toInt, 0⟩ : KS) (l.take (i + 1))).F))) rfl rfl rfl (fun e89 => ?_) (fun e89 => ?_)
         ·
          exact absurd rfl e89
         ·
          refine C rfl rfl (C rfl rfl (C rfl rfl (C rfl rfl (C rfl (op_ld (M72.at 1 rfl) rfl rfl) ?_))))
          refine WS.call rfl rfl rfl (Version_ro M72.here G69 (Mem.owni M72 0 rfl)) ?_
          rintro _ h73 ⟨rfl, N74⟩
          have M75 := M72.trans N74
          refine WS.chk rfl (op_ld (M75.at 1 rfl) rfl rfl) rfl (sameV_refl rfl) ?_
          refine WS.neqN (a := (runK (⟨[], heldK (kz).toInt, heldK (bz).toInt, 0⟩ : KS) (l.take (i + 1))).v) (b := (runK (⟨[], heldK (kz).toInt, heldK (bz).toInt, 0⟩ : KS) (l.take (i + 1))).v) rfl rfl rfl (fun e96 => ?_) (fun e96 => ?_)
          ·
           exact absurd rfl e96
          ·
           refine C rfl rfl (WS.nil [(2, _), (7, _), (8, _), (9, _), (97, _)] rfl ?_)
           refine WC.condF rfl (WC.skip (WC.run (C rfl rfl (WS.opV (.int .i64 (((i + 1) : Nat) : Int)) rfl rfl (add_i64 (a := i) (b := 1) (by omega)) (C rfl rfl (WS.nil [(2, _), (7, _), (8, _), (9, _)] rfl ?_))))))
           refine ⟨(x23, P44, c45, S68, S48, i + 1), rfl, ⟨((((M75.bare.bare.focus 1 rfl).focus 2 rfl).focus 2 rfl).take 3), ?_⟩, ?_⟩
           · exact ⟨G69, O49, by omega⟩
           · simp only []; omega
    ·
     refine WS.nil [(2, _), (7, _), (8, _), (9, _), (28, _)] rfl ?_
     refine WC.condF rfl (WC.exit ?_)
     refine WC.seq (WC.draw M20 [] rfl ?_)
     intro rb76 h77 M78
     have eA : l.take i = l := List.take_of_length_le (by omega)
     rw [eA] at G_ hO_ M78
     have GA := G_
     have hOA := hO_
     refine C rfl rfl (C rfl (op_lds [_, _, _, _] (M78.at 2 rfl) rfl (Nat.le_of_ble_eq_true rfl) rfl) ?_)
     refine WS.call rfl rfl rfl (kWrite_st  GA (M78.bare.focus 0 rfl) hFA.good.ok (fitN hFA) (Nat.lt_of_lt_of_le (fitV hFA) (by decide))) ?_
     rintro _ h79 ⟨rfl, S81, G82, M80⟩
     replace M80 : Mem _ _ (S81 :: T_ :: [(p11, _)] :: []) _ := M80
     refine WS.chk rfl (op_lds [_, _, _, _] (M80.at 2 rfl) rfl (Nat.le_of_ble_eq_true rfl) rfl) rfl (same_agg rfl) ?_
     refine WS.call rfl rfl rfl (rWrite_ran M80.here (s := (runK (⟨[], heldK (kz).toInt, heldK (bz).toInt, 0⟩ : KS) l)) (Row.Own.sl hOA (Mem.owni M80 1 rfl)) hFA.good.ok (fitN hFA) (Nat.lt_of_lt_of_le (fitV hFA) (by decide))) ?_
     rintro _ h83 ⟨rfl, N84⟩
     have M85 := M80.trans N84
     refine WS.seql (l := (wrK (runK (⟨[], heldK (kz).toInt, heldK (bz).toInt, 0⟩ : KS) l))) (m := (wrK (runK (⟨[], heldK (kz).toInt, heldK (bz).toInt, 0⟩ : KS) l))) rfl rfl rfl (fun e102 => ?_) (fun e102 => ?_)
     ·
      refine C rfl rfl ?_
      refine WS.call rfl rfl rfl (awake16_ran M85.here ) ?_
      rintro _ h86 ⟨rfl, N87⟩
      have M88 := M85.trans N87
      refine C rfl rfl (C rfl rfl (WS.nil [(6, _)] rfl ?_))
      refine WC.ret (⟨[_], (res_tmp rfl res_nil), ?_⟩)
      rfl
     ·
      exact absurd rfl e102
  ·
   refine WC.condT rfl (WC.seq (WC.run (WS.call rfl rfl rfl (awake16_ran M3.here ) ?_)))
   rintro _ h89 ⟨rfl, N90⟩
   have M91 := M3.trans N90
   refine C rfl rfl (WS.nil [(6, _)] rfl ?_)
   refine WC.ret (⟨[_], (res_tmp rfl res_nil), ?_⟩)
   rfl
end Go.Proofs.Ytkfjlbdedjoojaa.Wt
