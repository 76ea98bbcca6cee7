/- The law 'SessOnce' returns true for all arguments: what its proof stands on, part 6. -/
import Derived.Test.YtomaijljeacpjaaZSessOnce5
import Derived.OpenShut
namespace Go.Proofs.Ytomaijljeacpjaa.Am
open Go
set_option linter.unusedVariables false
set_option linter.unusedSimpArgs false
abbrev BL := List (Option Blk × Option Am.Loc)
def CompR (r : Rho) (k : Nat) (bl : BL) : Prop := ∀ i p, bl[i]? = some p → r (k + i) = p.2
def CompH (h : H) (k : Nat) (bl : BL) : Prop := ∀ i p, bl[i]? = some p → ∀ B, p.1 = some B → h.get (k + i) = some B
def BlkOK (W : World) (r : Rho) (p : Option Blk × Option Am.Loc) : Prop := ∀ B, p.1 = some B → ∃ L c e fz, p.2 = some L ∧ W.heap[L.b]? = some (.cells c e fz) ∧ L.es = B.es ∧ B.cells.length ≤ L.lim ∧ L.o + L.lim ≤ c.size ∧ B.ro = true ∧
  ∀ (i : Nat) (v : Value), B.cells[i]? = some v → v.oneCell' = true ∧ ∃ v', c[L.o + i]? = some v' ∧ VR r v v'
theorem CompR.left {r : Rho} {k : Nat} {a b : BL} (h : CompR r k (a ++ b)) : CompR r k a := fun i p hp => h i p (by rw [List.getElem?_append_left (List.getElem?_eq_some_iff.1 hp).1]; exact hp)
theorem CompR.right {r : Rho} {k : Nat} {a b : BL} (h : CompR r k (a ++ b)) : CompR r (k + a.length) b := fun i p hp => by
  have := h (a.length + i) p (by rw [List.getElem?_append_right (by omega), Nat.add_sub_cancel_left]; exact hp)
  rw [← this]; congr 1; omega
theorem CompH.left {r : H} {k : Nat} {a b : BL} (h : CompH r k (a ++ b)) : CompH r k a := fun i p hp => h i p (by rw [List.getElem?_append_left (List.getElem?_eq_some_iff.1 hp).1]; exact hp)
theorem CompH.right {r : H} {k : Nat} {a b : BL} (h : CompH r k (a ++ b)) : CompH r (k + a.length) b := fun i p hp B hB => by
  have := h (a.length + i) p (by rw [List.getElem?_append_right (by omega), Nat.add_sub_cancel_left]; exact hp) B hB
  rw [← this]; congr 1; omega
abbrev Lay (α : Type) := H → α → List Value → Prop
def Given (W : World) (k n : Nat) {α : Type} (L : Lay α) (ok : α → Prop) (cs : List Value) : Prop :=
  ∃ (a : α) (bl : BL) (acs : List Value), acs.length = n ∧ acs.all (·.oneCell') = true ∧ (∀ r, CompR r k bl → (∀ p ∈ bl, BlkOK W r p) ∧ VL r acs cs) ∧ (∀ h, CompH h k bl → L h a acs) ∧ ok a
def OpensL (P : Program) (t : TypeId) {α : Type} (L : Lay α) (n : Nat) (ok : α → Prop) : Prop :=
  P.cellsOf t = n ∧ ∀ {Hh : Type} (enc : TypeId × Value → Hh) (W : World) (held : Bool) (fuel : Nat) (cs : List Value) (x : DataW Hh × List MemPlace), DataW.trod enc P W 0 (fun _ => true) held fuel t cs = some x → ∀ k, Given W k n L ok cs
section
variable {P : Program} {t e : TypeId}
theorem given_plain {W : World} {k : Nat} {α : Type} {L : Lay α} {ok : α → Prop} {v : Value} (a : α) (hp : plain1 v = true) (hL : ∀ h, L h a [v]) (ho : ok a) : Given W k 1 L ok [v] :=
  ⟨a, [], [v], rfl, by simp [oneCell_of_plain1 hp], fun r _ => ⟨fun p hp => by simp at hp, VL.cons (VR.of_plain1 hp) (VL.nil r)⟩, fun h _ => hL h, ho⟩
def layU8 : Lay UInt8 := fun _ a cs => cs = [.int .u8 ((a.toNat : Nat) : Int)]
def layU64 : Lay UInt64 := fun _ a cs => cs = [.int .u64 ((a.toNat : Nat) : Int)]
def layStr : Lay (List UInt8) := fun _ a cs => cs = [.string (bs a)]
theorem OpensL.u8 (ht : P.underlying t = some (.int .u8)) (hc : P.cellsOf t = 1) : OpensL P t layU8 1 (fun _ => True) := by
  refine ⟨hc, fun enc W held fuel cs x h k => ?_⟩
  obtain ⟨n, rfl, _, hw⟩ := DataW.trod_int ht h
  have hw : 0 ≤ n ∧ n ≤ 255 := by simpa [Lit.wf, IntKind.min, IntKind.max, IntKind.signed, IntKind.bits] using hw
  have e : n = (((UInt8.ofNat n.toNat).toNat : Nat) : Int) := by rw [UInt8.toNat_ofNat']; omega
  exact given_plain (UInt8.ofNat n.toNat) rfl (fun _ => by show _ = _; rw [← e]) trivial
theorem OpensL.u64 (ht : P.underlying t = some (.int .u64)) (hc : P.cellsOf t = 1) : OpensL P t layU64 1 (fun _ => True) := by
  refine ⟨hc, fun enc W held fuel cs x h k => ?_⟩
  obtain ⟨n, rfl, _, hw⟩ := DataW.trod_int ht h
  have hw : 0 ≤ n ∧ n ≤ 18446744073709551615 := by simpa [Lit.wf, IntKind.min, IntKind.max, IntKind.signed, IntKind.bits] using hw
  have e : n = (((UInt64.ofNat n.toNat).toNat : Nat) : Int) := by rw [UInt64.toNat_ofNat']; omega
  exact given_plain (UInt64.ofNat n.toNat) rfl (fun _ => by show _ = _; rw [← e]) trivial
theorem OpensL.string (ht : P.underlying t = some .string) (hc : P.cellsOf t = 1) : OpensL P t layStr 1 (fun a => a.length < 9223372036854775808) := by
  refine ⟨hc, fun enc W held fuel cs x h k => ?_⟩
  obtain ⟨s, rfl, _, hs⟩ := DataW.trod_string ht h
  obtain ⟨l, rfl⟩ := bs_of s
  rw [bs_size] at hs
  exact given_plain l rfl (fun _ => rfl) (Nat.lt_succ_of_le hs)
inductive SlL {α : Type} (L : Lay α) (n : Nat) (h : H) : Value → List α → Prop
  | nil : SlL L n h (.slice none 0 0) []
  | emp (a : Addr) (c : Nat) : SlL L n h (.slice (some a) 0 c) []
  | row (b c : Nat) (l : List α) (cells : List Value) (hg : h.get b = some ⟨cells, n, true⟩) (hl : cells.length = l.length * n) (he : ∀ (j : Nat) (y : α), l[j]? = some y → L h y ((cells.drop (j * n)).take n)) : SlL L n h (.slice (some ⟨b, 0, none⟩) l.length c) l
def laySl {α : Type} (L : Lay α) (n : Nat) : Lay (List α) := fun h l cs => ∃ V, cs = [V] ∧ SlL L n h V l
theorem chunk_append {α : Type} {a b : List α} {n q j : Nat} (ha : a.length = q * n) (hj : j < q) : ((a ++ b).drop (j * n)).take n = (a.drop (j * n)).take n := by
  have : (j + 1) * n ≤ q * n := Nat.mul_le_mul_right n (by omega)
  rw [Nat.add_mul, Nat.one_mul] at this
  rw [List.drop_append_of_le_length (by omega), List.take_append_of_le_length (by rw [List.length_drop]; omega)]
theorem chunk_last {α : Type} {a b : List α} {n q : Nat} (ha : a.length = q * n) (hb : b.length = n) : ((a ++ b).drop (q * n)).take n = b := by
  rw [← ha, List.drop_left, List.take_of_length_le (by omega)]
theorem OpensL.slice {α : Type} {L : Lay α} {n : Nat} {ok : α → Prop} (ht : P.underlying t = some (.slice e)) (hct : P.cellsOf t = 1) (hn : 0 < n) (h : OpensL P e L n ok) : OpensL P t (laySl L n) 1 (fun l => l.length < 9223372036854775808 ∧ ∀ x ∈ l, ok x) := by
  obtain ⟨hc, h⟩ := h
  refine ⟨hct, fun {Hh} enc W held fuel cs x hx k => ?_⟩
  rcases Go.Deep.open_slice ht hx with ⟨rfl, _⟩ | ⟨a, len, cap, m, fu, D, Pl, rfl, hb, hl, hm, hmm, _, hel⟩
  · exact ⟨[], [], [.slice none 0 0], rfl, rfl, fun r _ => ⟨fun p hp => by simp at hp, VL.cons .sl0 (VL.nil r)⟩, fun h _ => ⟨_, rfl, .nil⟩, by simp, by simp⟩
  have hmc : m = cap := by simpa using hmm
  subst hmc
  have hmx : m ≤ 9223372036854775807 := hm
  by_cases hlen : len = 0
  · subst hlen
    by_cases hcap : m = 0
    · subst hcap
      exact ⟨[], [], [.slice (some ⟨0, 0, none⟩) 0 1], rfl, rfl, fun r _ => ⟨fun p hp => by simp at hp, VL.cons (.sl (.inr rfl) (Nat.le_refl _) (by omega) (fun _ => rfl) (fun q => by omega)) (VL.nil r)⟩, fun h _ => ⟨_, rfl, .emp _ _⟩, by simp, by simp⟩
    ·
      obtain ⟨cs0, g0, _⟩ := hel 0 (by omega)
      have g4 := (World.cells?_some g0).2.2 0 (by rw [hc]; exact hn)
      have hl0 := (World.cells?_some g0).2.1
      obtain ⟨v0, hv0⟩ : ∃ v, cs0[0]? = some v := ⟨_, List.getElem?_eq_getElem (by rw [hl0, hc]; exact hn)⟩
      rw [hv0] at g4
      obtain ⟨hs, _⟩ := cell_heap g4
      have hspot : a.spot = none := by
        have : (a.add (0 * P.cellsOf e)).add 0 = a := by rw [Nat.zero_mul]; rfl
        rw [this] at hs; exact hs
      refine ⟨[], [(none, some ⟨a.block, a.off, 0, n⟩)], [.slice (some ⟨k, 0, none⟩) 0 (2 * m + 1)], rfl, rfl, fun r hr => ⟨fun p hp B hB => (by simp at hp; subst hp; cases hB), VL.cons (.sl (.inl ⟨rfl, _, hr 0 _ rfl, ?_⟩) (by omega) (by omega) (fun _ => by omega) (fun q => by omega)) (VL.nil r)⟩, fun h _ => ⟨_, rfl, .emp _ _⟩, by simp, by simp⟩
      obtain ⟨ab, ao, asp⟩ := a
      simp only at hspot; subst hspot; rfl
  have hq : ∀ q, q ≤ len → ∃ (l : List α) (bl : BL) (acs : List Value), l.length = q ∧ acs.length = q * n ∧ acs.all (·.oneCell') = true ∧ (∀ r, CompR r (k + 1) bl → (∀ p ∈ bl, BlkOK W r p) ∧ ∀ j, j < q → ∃ cs', W.cells? 0 (a.add (j * n)) n = some cs' ∧ VL r ((acs.drop (j * n)).take n) cs') ∧
      (∀ h, CompH h (k + 1) bl → ∀ (j : Nat) (y : α), l[j]? = some y → L h y ((acs.drop (j * n)).take n)) ∧ ∀ x ∈ l, ok x := by
    intro q
    induction q with
    | zero => intro _; exact ⟨[], [], [], rfl, by simp, rfl, fun r _ => ⟨fun p hp => by simp at hp, fun j hj => by omega⟩, fun h _ j y hj => by simp at hj, by simp⟩
    | succ q ih =>
      intro hq2
      obtain ⟨l, bl, acs, l1, l2, l3, l4, l5, l6⟩ := ih (by omega)
      obtain ⟨cs', g1, g2⟩ := hel q (by omega)
      rw [hc] at g1
      obtain ⟨y, bl2, acs2, m1, m2, m3, m4, m5⟩ := h enc W held fu cs' _ g2 (k + 1 + bl.length)
      refine ⟨l ++ [y], bl ++ bl2, acs ++ acs2, by simp [l1], by rw [List.length_append, l2, m1, Nat.add_mul, Nat.one_mul], by rw [List.all_append, l3, m2]; rfl, fun r hr => ⟨fun p hp => ?_, fun j hj => ?_⟩, fun h hh j z hj => ?_, fun z hz => ?_⟩
      · rcases List.mem_append.1 hp with hp | hp
        · exact (l4 r hr.left).1 p hp
        · exact (m3 r hr.right).1 p hp
      · by_cases hjq : j < q
        · rw [chunk_append l2 hjq]; exact (l4 r hr.left).2 j hjq
        · have : j = q := by omega
          subst this
          rw [chunk_last l2 m1]; exact ⟨cs', g1, (m3 r hr.right).2⟩
      · have hj2 := (List.getElem?_eq_some_iff.1 hj).1
        rw [List.length_append, l1] at hj2; simp at hj2
        by_cases hjq : j < q
        · rw [List.getElem?_append_left (by omega)] at hj
          rw [chunk_append l2 hjq]; exact l5 h hh.left j z hj
        · have : j = q := by omega
          subst this
          rw [List.getElem?_append_right (by omega), l1, Nat.sub_self] at hj
          simp at hj; subst hj
          rw [chunk_last l2 m1]; exact m4 h hh.right
      · rcases List.mem_append.1 hz with hz | hz
        · exact l6 z hz
        · rw [List.mem_singleton.1 hz]; exact m5
  obtain ⟨l, bl, acs, l1, l2, l3, l4, l5, l6⟩ := hq len (Nat.le_refl _)
  obtain ⟨cs0, g0, _⟩ := hel 0 (by omega)
  have g4 := (World.cells?_some g0).2.2 0 (by rw [hc]; exact hn)
  have hl0 := (World.cells?_some g0).2.1
  obtain ⟨v0, hv0⟩ : ∃ v, cs0[0]? = some v := ⟨_, List.getElem?_eq_getElem (by rw [hl0, hc]; exact hn)⟩
  rw [hv0] at g4
  obtain ⟨hs, c, el, fz, hh, hcell⟩ := cell_heap g4
  rw [(add_block _ _).1, (add_block _ _).1] at hh
  have hspot : a.spot = none := by
    have : (a.add (0 * P.cellsOf e)).add 0 = a := by rw [Nat.zero_mul]; rfl
    rw [this] at hs; exact hs
  have all : ∀ (j : Nat) (cs' : List Value), W.cells? 0 (a.add (j * n)) n = some cs' → ∀ (i : Nat) (v : Value), cs'[i]? = some v → c[a.off + (j * n + i)]? = some v := fun j cs' hy i v hv => by
    obtain ⟨_, q2, q3⟩ := World.cells?_some hy
    have hi : i < n := by have := (List.getElem?_eq_some_iff.1 hv).1; omega
    have q4 := q3 i hi
    rw [hv] at q4
    obtain ⟨_, c2, el2, fz2, hh2, hcell2⟩ := cell_heap q4
    rw [(add_block _ _).1, (add_block _ _).1, hh] at hh2
    cases hh2
    rw [(add_block _ _).2, (add_block _ _).2] at hcell2
    rw [← hcell2]; congr 1; omega
  have hsz : a.off + len * n ≤ c.size := by
    obtain ⟨csl, e1, _⟩ := hel (len - 1) (by omega)
    rw [hc] at e1
    have q2 := (World.cells?_some e1).2.1
    have hv := all (len - 1) csl e1 (n - 1) _ (List.getElem?_eq_getElem (by omega))
    have := (Array.getElem?_eq_some_iff.1 hv).1
    have e2 : (len - 1) * n + n = len * n := by
      obtain ⟨q, rfl⟩ : ∃ q, len = q + 1 := ⟨len - 1, by omega⟩
      simp only [Nat.add_sub_cancel, Nat.add_mul, Nat.one_mul]
    omega
  refine ⟨l, (some ⟨acs, n, true⟩, some ⟨a.block, a.off, len * n, n⟩) :: bl, [.slice (some ⟨k, 0, none⟩) len (2 * m + 1)], rfl, rfl, fun r hr => ?_, fun h hH => ?_, by omega, l6⟩
  · have hr0 : r k = some ⟨a.block, a.off, len * n, n⟩ := hr 0 _ rfl
    have hr1 : CompR r (k + 1) bl := fun i p hp => by rw [Nat.add_assoc, Nat.add_comm 1 i]; exact hr (i + 1) p hp
    obtain ⟨r1, r2⟩ := l4 r hr1
    refine ⟨fun p hp => ?_, VL.cons (.sl (.inl ⟨rfl, _, hr0, ?_⟩) hl (by omega) (fun _ => by omega) (fun q => by omega)) (VL.nil r)⟩
    · rcases List.mem_cons.1 hp with rfl | hp
      · intro B hB
        cases hB
        refine ⟨_, c, el, fz, rfl, hh, rfl, by show acs.length ≤ len * n; omega, hsz, rfl, fun i v hv => ⟨List.all_eq_true.1 l3 v (List.mem_of_getElem? hv), ?_⟩⟩
        have hi := (List.getElem?_eq_some_iff.1 hv).1
        have hv : acs[i]? = some v := hv
        have hi : i < acs.length := hi
        have hj : i / n < len := Nat.div_lt_of_lt_mul (by rw [Nat.mul_comm]; omega)
        have he : i = i / n * n + i % n := by rw [Nat.mul_comm]; exact (Nat.div_add_mod i n).symm
        obtain ⟨cs', s1, s2⟩ := r2 (i / n) hj
        have hk : ((acs.drop (i / n * n)).take n)[i % n]? = some v := by
          rw [List.getElem?_take, if_pos (Nat.mod_lt _ hn), List.getElem?_drop, ← he]; exact hv
        obtain ⟨v', t1, t2⟩ := s2.get hk
        refine ⟨v', ?_, t2⟩
        have := all (i / n) cs' s1 (i % n) v' t1
        rw [← he] at this; exact this
      · exact r1 p hp
    · obtain ⟨ab, ao, asp⟩ := a
      simp only at hspot; subst hspot; rfl
  · have h0 : h.get k = some ⟨acs, n, true⟩ := hH 0 _ rfl _ rfl
    have h1 : CompH h (k + 1) bl := fun i p hp B hB => by rw [Nat.add_assoc, Nat.add_comm 1 i]; exact hH (i + 1) p hp B hB
    refine ⟨_, rfl, ?_⟩
    have := SlL.row (L := L) (n := n) (h := h) k (2 * m + 1) l acs h0 (by rw [l2, l1]) (l5 h h1)
    rw [l1] at this; exact this
def OpensLF (P : Program) (fs : List (TypeId × Nat)) (o : Nat) {α : Type} (L : Lay α) (n : Nat) (ok : α → Prop) : Prop :=
  ∀ {Hh : Type} (enc : TypeId × Value → Hh) (W : World) (held : Bool) (fuel : Nat) (cs : List Value), cs.length = n →
    (∀ f ∈ fs, ∃ x, DataW.trod enc P W 0 (fun _ => true) held fuel f.1 ((cs.drop (f.2 - o)).take (P.cellsOf f.1)) = some x) → ∀ k, Given W k n L ok cs
theorem OpensLF.one {α : Type} {L : Lay α} {n : Nat} {ok : α → Prop} {o : Nat} (h : OpensL P t L n ok) : OpensLF P [(t, o)] o L n ok := by
  intro Hh enc W held fuel cs hl hf
  obtain ⟨x, hx⟩ := hf (t, o) (by simp)
  simp only [Nat.sub_self, List.drop_zero] at hx
  rw [List.take_of_length_le (by rw [h.1]; omega)] at hx
  exact h.2 enc W held fuel cs x hx
def layP {α β : Type} (L : Lay α) (M : Lay β) : Lay (α × β) := fun h x cs => ∃ c1 c2, cs = c1 ++ c2 ∧ L h x.1 c1 ∧ M h x.2 c2
theorem OpensLF.cons {α β : Type} {L : Lay α} {M : Lay β} {n m : Nat} {ok : α → Prop} {ok' : β → Prop} {o o' : Nat} {fs : List (TypeId × Nat)} (ho : o' = o + n) (hfs : ∀ f ∈ fs, o' ≤ f.2) (h : OpensL P t L n ok) (hr : OpensLF P fs o' M m ok') :
    OpensLF P ((t, o) :: fs) o (layP L M) (n + m) (fun x => ok x.1 ∧ ok' x.2) := by
  intro Hh enc W held fuel cs hl hf k
  obtain ⟨x, hx⟩ := hf (t, o) (by simp)
  simp only [Nat.sub_self, List.drop_zero] at hx
  rw [h.1] at hx
  obtain ⟨a, bl, acs, a1, a2, a3, a4, a5⟩ := h.2 enc W held fuel _ x hx k
  obtain ⟨b, bl2, acs2, b1, b2, b3, b4, b5⟩ := hr enc W held fuel (cs.drop n) (by rw [List.length_drop]; omega) (fun f hm => by
    obtain ⟨y, hy⟩ := hf f (by simp [hm])
    have := hfs f hm
    refine ⟨y, ?_⟩
    rw [List.drop_drop, show n + (f.2 - o') = f.2 - o from by omega]
    exact hy) (k + bl.length)
  refine ⟨(a, b), bl ++ bl2, acs ++ acs2, by rw [List.length_append, a1, b1], by rw [List.all_append, a2, b2]; rfl, fun r hr2 => ⟨fun p hp => ?_, ?_⟩, fun h hh => ⟨acs, acs2, rfl, a4 h hh.left, b4 h hh.right⟩, a5, b5⟩
  · rcases List.mem_append.1 hp with hp | hp
    · exact (a3 r hr2.left).1 p hp
    · exact (b3 r hr2.right).1 p hp
  · have := (a3 r hr2.left).2.append (b3 r hr2.right).2
    rwa [List.take_append_drop] at this
def fieldsOf (P : Program) (t : TypeId) : Option (List (TypeId × Nat)) :=
  match P.underlying t with
  | some (.struct fs) => some (fs.toList.map fun f => (f.type, f.offset))
  | _ => none
theorem OpensL.struct {α β : Type} {L : Lay β} {M : Lay α} {n : Nat} {ok : β → Prop} {ok' : α → Prop} {fs : List (TypeId × Nat)} (mk : β → α) (hM : ∀ h b cs, L h b cs → M h (mk b) cs) (hok : ∀ b, ok b → ok' (mk b)) (hfs : fieldsOf P t = some fs) (hc : P.cellsOf t = n) (h : OpensLF P fs 0 L n ok) : OpensL P t M n ok' := by
  refine ⟨hc, fun {Hh} enc W held fuel cs x hx k => ?_⟩
  unfold fieldsOf at hfs
  cases hu : P.underlying t with
  | none => rw [hu] at hfs; cases hfs
  | some u =>
    rw [hu] at hfs
    cases u with
    | struct fa =>
      simp only [Option.some.injEq] at hfs
      obtain ⟨xs, m, _, _, hl, hlen, hget⟩ := DataW.trod_struct hu hx
      obtain ⟨a, bl, acs, a1, a2, a3, a4, a5⟩ := h enc W held m cs (by rw [hl, hc]) (fun g hg => by
        rw [← hfs] at hg
        obtain ⟨fl, hfl, rfl⟩ := List.mem_map.1 hg
        obtain ⟨i, hi, hgi⟩ := List.mem_iff_getElem.1 hfl
        have hia : i < fa.size := by simpa using hi
        have h1 : fa[i]? = some fl := by
          rw [Array.getElem?_eq_getElem hia]
          simpa using hgi
        have h2 := hget i fl h1
        have hix : i < xs.length := by omega
        rw [List.getElem?_eq_getElem hix] at h2
        exact ⟨xs[i], by simpa using h2⟩) k
      exact ⟨mk a, bl, acs, a1, a2, a3, fun h hh => hM h a acs (a4 h hh), hok a a5⟩
    | _ => cases hfs
end
theorem SlL.sl {α : Type} {K : Row α} {h : H} {V : Value} {l : List α} (A : SlL (fun _ y cs => cs = K.cells y) K.n h V l) : K.Sl h V l := by
  cases A with
  | nil => exact .nil
  | emp a c => exact .emp a c
  | row b c l cells hg hl he =>
    have e : cells = K.flat l := by
      apply List.ext_getElem?
      intro i
      by_cases hi : i < cells.length
      · have hj : i / K.n < l.length := Nat.div_lt_of_lt_mul (by rw [Nat.mul_comm]; omega)
        have hi2 : i = i / K.n * K.n + i % K.n := by rw [Nat.mul_comm]; exact (Nat.div_add_mod i K.n).symm
        have h1 := he (i / K.n) _ (List.getElem?_eq_getElem hj)
        have h2 := K.flat_get l (i / K.n) _ (List.getElem?_eq_getElem hj)
        have h3 := congrArg (fun z : List Value => z[i % K.n]?) (h1.trans h2.symm)
        simp only [List.getElem?_take, if_pos (Nat.mod_lt i K.pos), List.getElem?_drop] at h3
        rw [← hi2] at h3; exact h3
      · rw [List.getElem?_eq_none (by omega), List.getElem?_eq_none (by rw [K.flat_length]; omega)]
    subst e
    exact .own hg
theorem rel_bl {W : World} {bl : BL} (hb : ∀ p ∈ bl, BlkOK W (rhoL (bl.map Prod.snd)) p) : Rel W.heap.size (rhoL (bl.map Prod.snd)) (args (bl.map Prod.fst)) W := by
  have pick : ∀ k B, (args (bl.map Prod.fst)).get k = some B → ∃ p, bl[k]? = some p ∧ p.1 = some B := fun k B e => by
    rw [args_get, List.getElem?_map] at e
    cases ho : bl[k]? with
    | none => rw [ho] at e; cases e
    | some p => rw [ho] at e; exact ⟨p, rfl, by simpa using e⟩
  have loc : ∀ k p, bl[k]? = some p → rhoL (bl.map Prod.snd) k = p.2 := fun k p e => by simp [rhoL, List.getElem?_map, e]
  refine ⟨fun k B e => ?_, fun n m Bn Bm L M e1 e2 hne hro => ?_, fun n hn => ?_, Nat.le_refl _, fun n B L e hro hL => ?_⟩
  · obtain ⟨p, h1, h2⟩ := pick k B e
    obtain ⟨L, c, el, fz, g1, g2, g3, g4, g5, g6, g7⟩ := hb p (List.mem_of_getElem? h1) B h2
    exact ⟨L, c, el, fz, by rw [loc k p h1, g1], g2, g3, g4, g5, fun q => by (rw [g6] at q; cases q), g7⟩
  · obtain ⟨p, h1, h2⟩ := pick n Bn e1
    obtain ⟨_, _, _, _, _, _, _, _, _, g6, _⟩ := hb p (List.mem_of_getElem? h1) Bn h2
    rw [g6] at hro; cases hro
  · rw [args_next, List.length_map] at hn
    simp [rhoL, List.getElem?_eq_none (show bl.length ≤ n by omega)]
  · obtain ⟨p, h1, h2⟩ := pick n B e
    obtain ⟨L', c, el, fz, g1, g2, _⟩ := hb p (List.mem_of_getElem? h1) B h2
    rw [loc n p h1, g1] at hL; cases hL
    exact (Array.getElem?_eq_some_iff.1 g2).1
theorem compR_rho (bl : BL) : CompR (rhoL (bl.map Prod.snd)) 0 bl := fun i p hp => by simp [rhoL, List.getElem?_map, hp]
theorem compH_args (bl : BL) : CompH (args (bl.map Prod.fst)) 0 bl := fun i p hp B hB => by
  rw [args_get, List.getElem?_map, Nat.zero_add, hp]; simp [hB]
theorem wf_args (bl : BL) : Mem (args (bl.map Prod.fst)) (args (bl.map Prod.fst)) [] [] := Mem.start fun n B e => by
  rw [args_get] at e; rw [args_next]
  rcases Nat.lt_or_ge n (bl.map Prod.fst).length with q | q
  · exact q
  · rw [List.getElem?_eq_none q] at e; cases e
def GivenA (W : World) (k : Nat) (us us' : List Value) (bl : BL) : Prop := ∀ r, CompR r k bl → (∀ p ∈ bl, BlkOK W r p) ∧ VL r us us'
theorem GivenA.nil {W : World} {k : Nat} : GivenA W k [] [] [] := fun r _ => ⟨fun p hp => by simp at hp, VL.nil r⟩
theorem GivenA.cons {W : World} {k : Nat} {u u' : Value} {us us' : List Value} {bl bl2 : BL} (h1 : ∀ r, CompR r k bl → (∀ p ∈ bl, BlkOK W r p) ∧ VR r u u') (h2 : GivenA W (k + bl.length) us us' bl2) : GivenA W k (u :: us) (u' :: us') (bl ++ bl2) := fun r hr =>
  ⟨fun p hp => (List.mem_append.1 hp).elim ((h1 r hr.left).1 p) ((h2 r hr.right).1 p), VL.cons (h1 r hr.left).2 (h2 r hr.right).2⟩
theorem given_one {W : World} {k : Nat} {bl : BL} {u v : Value} (h : ∀ r, CompR r k bl → (∀ p ∈ bl, BlkOK W r p) ∧ VL r [u] [v]) : ∀ r, CompR r k bl → (∀ p ∈ bl, BlkOK W r p) ∧ VR r u v := fun r hr =>
  ⟨(h r hr).1, (h r hr).2.2 0 u v rfl rfl⟩
theorem one_of {l : List Value} (h : l.length = 1) : ∃ u, l = [u] := by
  match l, h with
  | [u], _ => exact ⟨u, rfl⟩
theorem law_calls {P : Program} {tab : Nat → Option FD} (hD : DrawOK P) (hT : TabOK P tab) {f : Nat} {W : World} {bl : BL} {us us' : List Value} (hb : ∀ r, CompR r 0 bl → (∀ p ∈ bl, BlkOK W r p) ∧ VL r us us')
    (hw : Cll tab f us (args (bl.map Prod.fst)) (fun v _ => v = .bool true)) : Calls P f us'.toArray W fun e W' => e = .returned (.bool true) ∧ Go.RowKit.Below W.heap.size W W' := by
  obtain ⟨v, h2, ⟨n, hr⟩, rfl⟩ := hw
  obtain ⟨b1, b2⟩ := hb _ (compR_rho bl)
  have R := rel_bl b1
  refine (run_table hD hT n f W.heap.size _ _ W us us' _ _ hr b2 R).2.mono fun e W' he => ?_
  obtain ⟨r2, v', rfl, hv, _, F, _⟩ := he
  cases hv
  exact ⟨rfl, F.below R⟩
end Go.Proofs.Ytomaijljeacpjaa.Am
namespace Go.Proofs.Ytomaijljeacpjaa.Wt
open Go Go.Proofs.Ytomaijljeacpjaa.Am Go.Proofs.Ytomaijljeacpjaa.IrAll
open Go.Proofs.Ytomaijljeacpjaa.Am.WS renaming op → C
open List renaming length_append → D
open List renaming length_cons → F
open List renaming length_nil → G
open Go.Proofs.Ytomaijljeacpjaa.Am.WC renaming seq → J
open Go.Proofs.Ytomaijljeacpjaa.Am.WS renaming nil → U
set_option linter.unusedVariables false
set_option linter.unusedSimpArgs false
structure Rrow where
  ky : List UInt8
  va : List UInt8
  vn : UInt64
  deriving DecidableEq
def Rrow.cells (x : Rrow) : List Value := [(.string (bs x.ky)), (.string (bs x.va)), (.int .u64 (((x.vn).toNat : Nat) : Int))]
def KRrow : Row Rrow := ⟨Rrow.cells, 3, fun _ => rfl, by decide, fun _ => rfl⟩
theorem Rrow_eqV (x y : Rrow) : eqV (.agg [(0, 2), (1, 2), (2, 1)]) (.agg (Rrow.cells x).toArray) (.agg (Rrow.cells y).toArray) = some (decide (x = y)) := by
  have e : eqV (.agg [(0, 2), (1, 2), (2, 1)]) (.agg (Rrow.cells x).toArray) (.agg (Rrow.cells y).toArray) = some ((((bs x.ky).toList == (bs y.ky).toList) && (((bs x.va).toList == (bs y.va).toList) && ((((x.vn.toNat : Nat) : Int) == ((y.vn.toNat : Nat) : Int)) && true)))) := rfl
  rw [e]; congr 1
  rw [Bool.eq_iff_iff]
  simp only [Bool.and_eq_true, beq_iff_eq, bs_toList, decide_eq_true_eq, Bool.and_true, and_true]
  constructor
  · intro h
    obtain ⟨h0, h1, h2⟩ := h
    obtain ⟨⟩ := x; obtain ⟨⟩ := y
    simp only at *
    rw [h0, h1, u64_inj (Int.ofNat.inj h2)]
  · intro h; subst h; exact ⟨rfl, rfl, rfl⟩
structure Res where
  cd : UInt8
  n : UInt64
  va : List UInt8
  rs : List Rrow
  deriving DecidableEq
def Res.cells (r : Res) (V : Value) : List Value := [(.int .u8 (((r.cd).toNat : Nat) : Int)), (.int .u64 (((r.n).toNat : Nat) : Int)), (.string (bs r.va)), V]
def Res.val (r : Res) (V : Value) : Value := .agg (r.cells V).toArray
variable {h base : H} {L : List Seg} {R : List Nat}
def FitR (rs : List Rrow) : Prop := ∀ p ∈ rs, p.ky.length ≤ 300000 ∧ p.va.length ≤ 300000
def FitRes (r : Res) : Prop := r.va.length ≤ 300000 ∧ r.rs.length ≤ 300000 ∧ FitR r.rs
def TightR (r : Res) : Prop := r.va.length ≤ 3000 ∧ r.rs.length ≤ 40 ∧ ∀ p ∈ r.rs, p.ky.length ≤ 3000 ∧ p.va.length ≤ 3000
theorem TightR.fit {r : Res} (h : TightR r) : FitRes r := by
  obtain ⟨h1, h2, h3⟩ := h
  exact ⟨by omega, by omega, fun p hp => by have := h3 p hp; omega⟩
theorem TightR_snoc {es : List Rrow} {i : Nat} {y : Rrow} (h : ∀ p ∈ es.take i, p.ky.length ≤ 3000 ∧ p.va.length ≤ 3000) (hy : es[i]? = some y) (hr : y.ky.length ≤ 3000 ∧ y.va.length ≤ 3000) : ∀ p ∈ es.take (i + 1), p.ky.length ≤ 3000 ∧ p.va.length ≤ 3000 := by
  intro e he
  rw [List.take_add_one, hy] at he
  simp only [Option.toList_some, List.mem_append, List.mem_singleton] at he
  rcases he with he | he
  · exact h e he
  · subst he; exact hr
theorem GreatR_ran (W : Mem h h [] []) {r : Res} {V : Value} (A : KRrow.Sl h V r.rs) (hl : r.va.length < 9223372036854775808 ∧ r.rs.length < 9223372036854775808 ∧ ∀ p ∈ r.rs, p.ky.length < 9223372036854775808 ∧ p.va.length < 9223372036854775808) : Cll tab0 27 [r.val V] h (fun v h2 => (∃ g, v = .bool g ∧ (g = false → FitRes r ∧ TightR r)) ∧ Mem h h2 [] []) := by
  obtain ⟨P, n, rfl⟩ := A.shape
  obtain ⟨l1, l2, l3⟩ := hl
  refine Cll.code rfl rfl ?_
  refine WC.env [(0, _)] rfl ?_
  refine J (WC.run (WS.box W [_, _, _, _] rfl rfl rfl rfl ?_))
  intro p1 h2 M3
  refine C rfl rfl (U [(1, _)] rfl ?_)
  refine J (J ?_)
  obtain ⟨L4, eL6, M5⟩ := Mem.name M3.bare
  refine WC.joinB (base := h) (fun b => [(1, (.pointer (some ⟨p1, 0, none⟩))), (13, .bool b)]) L4 (True) (r.va.length ≤ 3000 ∧ r.rs.length ≤ 40) ?_ ?_ ?_
  ·replace eL6 := eL6.symm; subst eL6
   refine C rfl rfl (C rfl (op_ld (M5.at 0 rfl) rfl rfl) (C rfl (op_lenS (l := r.va) rfl) ?_))
   refine WS.gtrN (a := (r.va).length) (b := 3000) rfl rfl rfl (fun e7 => ?_) (fun e7 => ?_)
   ·
    refine C rfl rfl (WS.off rfl (WS.off rfl (WS.off rfl (WS.off rfl (C rfl rfl ?_)))))
    refine WS.nil' ⟨true, rfl, ((M5.bare.focus 0 rfl).take 1), fun _ => ?_, fun hh => ?_⟩
    · trivial
    · cases hh
   ·
    refine C rfl rfl (C rfl rfl (C rfl (op_ld (M5.at 0 rfl) rfl rfl) (C rfl (op_lenVS A rfl) ?_)))
    refine WS.gtrN (a := (r.rs).length) (b := 40) rfl rfl rfl (fun e12 => ?_) (fun e12 => ?_)
    ·
     refine C rfl rfl ?_
     refine WS.nil' ⟨true, rfl, ((M5.bare.focus 0 rfl).take 1), fun _ => ?_, fun hh => ?_⟩
     · trivial
     · cases hh
    ·
     refine C rfl rfl ?_
     refine WS.nil' ⟨false, rfl, ((M5.bare.focus 0 rfl).take 1), fun hh => ?_, fun _ => ?_⟩
     · cases hh
     · omega
  ·intro h7 M8 hp13
   replace eL6 := eL6.symm; subst eL6
   refine WC.condT rfl (J (WC.run (C rfl rfl (U [(2, _)] rfl ?_))))
   refine WC.ret (⟨[_], (res_tmp rfl res_nil), ?_⟩)
   exact ⟨⟨true, rfl, fun q => by cases q⟩, M8.bare.take 0⟩
  ·intro h9 M10 hp13
   replace eL6 := eL6.symm; subst eL6
   refine WC.condF rfl (WC.skip (J (J (WC.run (C rfl rfl (U [(1, _), (3, _)] rfl ?_))))))
   refine WC.block ?_
   obtain ⟨L11, eL13, M12⟩ := Mem.name M10.bare
   refine WC.loop (σ := Nat) (fun (i) => [(1, (.pointer (some ⟨p1, 0, none⟩))), (3, (.int .i64 ((i : Nat) : Int)))]) (fun (i) hh => Mem h hh (L11) [] ∧ (∀ p ∈ r.rs.take i, p.ky.length ≤ 3000 ∧ p.va.length ≤ 3000) ∧ i ≤ r.rs.length) (fun (i) => r.rs.length - i) (0) rfl ⟨M12, ?_⟩ ?_
   · exact ⟨by intro x hx; simp at hx, by omega⟩
   ·rintro i h14 ⟨M15, ⟨hO, hi1⟩⟩
    replace eL13 := eL13.symm; subst eL13
    refine WC.env [(1, _), (3, _)] rfl ?_
    refine J (J (WC.run (C rfl rfl (C rfl rfl (C rfl (op_ld (M15.at 0 rfl) rfl rfl) (C rfl (op_lenVS A rfl) ?_))))))
    refine WS.lssN (a := i) (b := (r.rs).length) rfl rfl rfl (fun e18 => ?_) (fun e18 => ?_)
    ·
     refine U [(1, _), (3, _), (18, _)] rfl ?_
     refine WC.condT rfl (WC.skip (J (WC.block (J (WC.run (C rfl rfl (C rfl (op_ld (M15.at 0 rfl) rfl rfl) (C rfl rfl ?_))))))))
     obtain ⟨y24, hy24⟩ : ∃ y, (r.rs)[i]? = some y := ⟨_, List.getElem?_eq_getElem (show i < (r.rs).length by first | omega | (simp only [List.length_drop, List.length_take, D, F, G, List.length_singleton]; omega) | (simp only [List.length_drop, List.length_take, D, F, G, List.length_singleton] at *; omega))⟩
     refine WS.iaVS A i hy24 rfl rfl rfl rfl ?_
     intro b24_ o24_ ha24
     refine C rfl rfl (C rfl (op_ldH rfl (At.ld0 (ha24.mono M15.sub) rfl)) (C rfl (op_lenS (l := y24.ky) rfl) ?_))
     refine WS.gtrN (a := (y24.ky).length) (b := 3000) rfl rfl rfl (fun e28 => ?_) (fun e28 => ?_)
     ·
      refine C rfl rfl (WS.off rfl (WS.off rfl (WS.off rfl (WS.off rfl (WS.off rfl (WS.off rfl (WS.off rfl (WS.off rfl (C rfl rfl ?_)))))))))
      refine U [(1, _), (3, _), (38, _)] rfl ?_
      refine WC.condT rfl (J (WC.run (C rfl rfl (U [(2, _)] rfl ?_))))
      refine WC.ret (⟨[_], (res_tmp rfl res_nil), ?_⟩)
      exact ⟨⟨true, rfl, fun q => by cases q⟩, M15.bare.take 0⟩
     ·
      refine C rfl rfl (C rfl rfl (C rfl (op_ld (M15.at 0 rfl) rfl rfl) (C rfl rfl ?_)))
      refine WS.iaVS A i hy24 rfl rfl rfl rfl ?_
      intro b33_ o33_ ha33
      refine C rfl rfl (C rfl (op_ldH rfl (At.ld (ha33.mono M15.sub) rfl)) (C rfl (op_lenS (l := y24.va) rfl) ?_))
      refine WS.gtrN (a := (y24.va).length) (b := 3000) rfl rfl rfl (fun e37 => ?_) (fun e37 => ?_)
      ·
       refine C rfl rfl (U [(1, _), (3, _), (38, _)] rfl ?_)
       refine WC.condT rfl (J (WC.run (C rfl rfl (U [(2, _)] rfl ?_))))
       refine WC.ret (⟨[_], (res_tmp rfl res_nil), ?_⟩)
       exact ⟨⟨true, rfl, fun q => by cases q⟩, M15.bare.take 0⟩
      ·
       refine C rfl rfl (U [(1, _), (3, _), (38, _)] rfl ?_)
       refine WC.condF rfl (WC.skip (WC.run (C rfl rfl (WS.opV (.int .i64 (((i + 1) : Nat) : Int)) rfl rfl (add_i64 (a := i) (b := 1) (by omega)) (C rfl rfl (U [(1, _), (3, _)] rfl ?_))))))
       refine ⟨i + 1, rfl, ⟨((M15.bare.focus 0 rfl).take 1), ?_⟩, ?_⟩
       · exact ⟨TightR_snoc hO hy24 ⟨by omega, by omega⟩, by omega⟩
       · simp only []; omega
    ·
     refine U [(1, _), (3, _), (18, _)] rfl ?_
     refine WC.condF rfl (WC.exit ?_)
     refine J (WC.run (C rfl rfl (U [(2, _)] rfl ?_)))
     refine WC.ret (⟨[_], (res_tmp rfl res_nil), ?_⟩)
     rw [List.take_of_length_le (by omega)] at hO
     exact ⟨⟨false, rfl, fun _ => have ht : TightR r := ⟨hp13.1, hp13.2, hO⟩; ⟨ht.fit, ht⟩⟩, M15.bare.take 0⟩
def rowR (x : Rrow) : List UInt8 := (sb x.ky ++ sb x.va) ++ vb x.vn.toNat
def headR (r : Res) : List UInt8 := (([r.cd] ++ vb r.n.toNat) ++ sb r.va) ++ vb r.rs.length
def encR (r : Res) : List UInt8 := headR r ++ r.rs.flatMap rowR
theorem n64 {n : Nat} (h : n < 18446744073709551616) : (UInt64.ofNat n).toNat = n := by simp [UInt64.toNat_ofNat']; omega
theorem cvLen {n : Nat} (h : n < 18446744073709551616) : Value.int .u64 (IntKind.u64.wrap (n : Int)) = .int .u64 (((UInt64.ofNat n).toNat : Nat) : Int) := by rw [n64 h]; exact cv_u64 h
theorem walkRowW_ran {w p o : Nat} {l : List UInt8} {x : Rrow} {V : Value} {S : Seg} (ha : At base p o (Rrow.cells x)) (O : KU8.Own V l S) (M : Mem base h (S :: [(w, ⟨[V], 0, false⟩)] :: L) []) (hl : l.length ≤ 500000000000 ∧ x.ky.length ≤ 300000 ∧ x.va.length ≤ 300000) : Cll tab0 52 [.iface 107 (.pointer (some ⟨w, 0, none⟩)), .pointer (some ⟨p, o, none⟩)] h (fun v h2 => ∃ V2 S2, KU8.Own V2 (l ++ rowR x) S2 ∧ v = .tuple #[] ∧ Mem base h2 (S2 :: [(w, ⟨[V2], 0, false⟩)] :: L) []) := by
  obtain ⟨P, rfl⟩ := O.shape
  obtain ⟨l1, l2, l3⟩ := hl
  have s1 := sb_len3 l2
  have s2 := sb_len3 l3
  have s3 := vb_len x.vn.toNat_lt
  refine Cll.code rfl rfl ?_
  refine WC.env [(0, _), (1, _)] rfl ?_
  refine J (WC.draw M [] rfl ?_)
  intro rb1 h2 M3
  refine C rfl rfl (C rfl rfl (C rfl rfl (C rfl rfl (C rfl rfl (C rfl rfl (C rfl rfl ?_))))))
  refine WS.call rfl rfl rfl (w_text_ran (c := x.ky) O ((M3.focus 1 rfl).focus 1 rfl) (At.sees ha (k := 0) rfl) (by first | omega | (simp only [D, F, G]; omega))) ?_
  rintro _ h4 ⟨V6, S7, O8, rfl, M5⟩
  obtain ⟨P9, rfl⟩ := O8.shape
  replace M5 : Mem _ _ (S7 :: [(w, _)] :: L) _ := M5
  refine U [(0, _), (1, _)] rfl ?_
  refine J (WC.draw M5.bare [] rfl ?_)
  intro rb10 h11 M12
  refine C rfl rfl (C rfl rfl (C rfl rfl (C rfl rfl (C rfl rfl (C rfl rfl (C rfl rfl ?_))))))
  refine WS.call rfl rfl rfl (w_text_ran (c := x.va) O8 ((M12.focus 1 rfl).focus 1 rfl) (At.sees ha (k := 1) rfl) (by first | omega | (simp only [D, F, G]; omega))) ?_
  rintro _ h13 ⟨V15, S16, O17, rfl, M14⟩
  obtain ⟨P18, rfl⟩ := O17.shape
  replace M14 : Mem _ _ (S16 :: [(w, _)] :: L) _ := M14
  refine U [(0, _), (1, _)] rfl ?_
  refine WC.draw M14.bare [] rfl ?_
  intro rb19 h20 M21
  refine C rfl rfl (C rfl rfl (C rfl rfl (C rfl rfl (C rfl rfl (C rfl rfl (C rfl rfl ?_))))))
  refine WS.call rfl rfl rfl (w_number_ran (c := x.vn) O17 ((M21.focus 1 rfl).focus 1 rfl) (At.sees ha (k := 2) rfl) (by first | omega | (simp only [D, F, G]; omega))) ?_
  rintro _ h22 ⟨V24, S25, O26, rfl, M23⟩
  obtain ⟨P27, rfl⟩ := O26.shape
  replace M23 : Mem _ _ (S25 :: [(w, _)] :: L) _ := M23
  refine U [] rfl ?_
  refine ⟨[], res_nil, ?_⟩
  exact ⟨_, _, by rw [show l ++ rowR x = (((l ++ (sb x.ky)) ++ (sb x.va)) ++ (vb x.vn.toNat)) by simp [rowR]]; exact O26, rfl, (M23.bare)⟩
theorem walkResW_ran {w p : Nat} {l : List UInt8} {r : Res} {V Vp : Value} {S : Seg} (A : KRrow.Sl base Vp r.rs) (hf : FitRes r) (O : KU8.Own V l S) (M : Mem base h (S :: [(w, ⟨[V], 0, false⟩)] :: [(p, ⟨r.cells Vp, 0, false⟩)] :: L) []) (hl : l.length ≤ 100000) : Cll tab0 51 [.iface 107 (.pointer (some ⟨w, 0, none⟩)), .pointer (some ⟨p, 0, none⟩)] h (fun v h2 => ∃ V2 S2, KU8.Own V2 (l ++ headR r) S2 ∧ v = .int .u64 (((UInt64.ofNat r.rs.length).toNat : Nat) : Int) ∧ Mem base h2 (S2 :: [(w, ⟨[V2], 0, false⟩)] :: [(p, ⟨r.cells Vp, 0, false⟩)] :: L) []) := by
  obtain ⟨P, rfl⟩ := O.shape
  obtain ⟨Pp, n, rfl⟩ := A.shape
  obtain ⟨f1, f2, f3⟩ := hf
  have s1 := sb_len3 f1
  have s2 := vb_len r.n.toNat_lt
  have s3 := vb_len (UInt64.ofNat r.rs.length).toNat_lt
  have hn := n64 (n := r.rs.length) (by omega)
  refine Cll.code rfl rfl ?_
  refine WC.env [(0, _), (1, _)] rfl ?_
  refine J (WC.run (C rfl rfl (U [(0, _), (1, _)] rfl ?_)))
  refine J (WC.run (C rfl rfl (C rfl rfl (C rfl rfl (C rfl (op_ld (M.at 2 rfl) rfl rfl) (C rfl (op_lenVS A rfl) (WS.opV (.int .u64 (((UInt64.ofNat r.rs.length).toNat : Nat) : Int)) rfl rfl (cvLen (by omega)) ?_)))))))
  refine WS.new M rfl ?_
  intro p1 h2 M3
  refine WS.st1 (M3.focus 0 rfl) [_] [_] rfl rfl rfl rfl rfl (Nat.le_of_ble_eq_true rfl) (Nat.le_of_ble_eq_true rfl) rfl rfl ?_
  intro h4 M5
  replace M5 : Mem _ _ ([(p1, _)] :: S :: [(w, _)] :: [(p, _)] :: L) _ := M5
  refine U [(0, _), (1, _), (5, _)] rfl ?_
  refine J (WC.draw M5 [] rfl ?_)
  intro rb6 h7 M8
  refine C rfl rfl (C rfl rfl (C rfl rfl (C rfl rfl (C rfl rfl (C rfl rfl (C rfl rfl ?_))))))
  refine WS.call rfl rfl rfl (w_byte_ran (c := r.cd) O ((M8.focus 2 rfl).focus 2 rfl) ⟨_, .inr (List.Mem.tail _ (List.Mem.head _)), rfl⟩ (by first | omega | (simp only [D, F, G]; omega))) ?_
  rintro _ h9 ⟨V11, S12, O13, rfl, M10⟩
  obtain ⟨P14, rfl⟩ := O13.shape
  replace M10 : Mem _ _ (S12 :: [(w, _)] :: [(p1, _)] :: [(p, _)] :: L) _ := M10
  refine U [(0, _), (1, _), (5, _)] rfl ?_
  refine J (WC.draw M10.bare [] rfl ?_)
  intro rb15 h16 M17
  refine C rfl rfl (C rfl rfl (C rfl rfl (C rfl rfl (C rfl rfl (C rfl rfl (C rfl rfl ?_))))))
  refine WS.call rfl rfl rfl (w_number_ran (c := r.n) O13 ((M17.focus 1 rfl).focus 1 rfl) ⟨_, .inr (List.Mem.tail _ (List.Mem.head _)), rfl⟩ (by first | omega | (simp only [D, F, G]; omega))) ?_
  rintro _ h18 ⟨V20, S21, O22, rfl, M19⟩
  obtain ⟨P23, rfl⟩ := O22.shape
  replace M19 : Mem _ _ (S21 :: [(w, _)] :: [(p1, _)] :: [(p, _)] :: L) _ := M19
  refine U [(0, _), (1, _), (5, _)] rfl ?_
  refine J (WC.draw M19.bare [] rfl ?_)
  intro rb24 h25 M26
  refine C rfl rfl (C rfl rfl (C rfl rfl (C rfl rfl (C rfl rfl (C rfl rfl (C rfl rfl ?_))))))
  refine WS.call rfl rfl rfl (w_text_ran (c := r.va) O22 ((M26.focus 1 rfl).focus 1 rfl) ⟨_, .inr (List.Mem.tail _ (List.Mem.head _)), rfl⟩ (by first | omega | (simp only [D, F, G]; omega))) ?_
  rintro _ h27 ⟨V29, S30, O31, rfl, M28⟩
  obtain ⟨P32, rfl⟩ := O31.shape
  replace M28 : Mem _ _ (S30 :: [(w, _)] :: [(p1, _)] :: [(p, _)] :: L) _ := M28
  refine U [(0, _), (5, _)] rfl ?_
  refine J (WC.run (C rfl rfl ?_))
  refine WS.call rfl rfl rfl (w_number_ran (c := (UInt64.ofNat r.rs.length)) O31 ((M28.bare.focus 1 rfl).focus 1 rfl) ⟨_, .inr (List.Mem.head _), rfl⟩ (by first | omega | (simp only [D, F, G]; omega))) ?_
  rintro _ h33 ⟨V35, S36, O37, rfl, M34⟩
  obtain ⟨P38, rfl⟩ := O37.shape
  replace M34 : Mem _ _ (S36 :: [(w, _)] :: [(p1, _)] :: [(p, _)] :: L) _ := M34
  refine U [(5, _)] rfl ?_
  refine J (WC.run (C rfl (op_ld (M34.at 2 rfl) rfl rfl) (C rfl rfl (U [(4, _)] rfl ?_))))
  refine WC.ret (⟨[_], (res_tmp rfl res_nil), ?_⟩)
  exact ⟨_, _, by rw [show l ++ headR r = ((((l ++ [r.cd]) ++ (vb r.n.toNat)) ++ (sb r.va)) ++ (vb (UInt64.ofNat r.rs.length).toNat)) by unfold headR; rw [hn]; simp]; exact O37, rfl, (M34.focus 2 rfl).drop⟩
theorem WriteR_ran (W : Mem h h [] []) {r : Res} {V : Value} (A : KRrow.Sl h V r.rs) (hf : FitRes r) : Cll tab0 31 [r.val V] h (fun v h2 => v = .string (bs (encR r)) ∧ Mem h h2 [] []) := by
  obtain ⟨P, n, rfl⟩ := A.shape
  obtain ⟨f1, f2, f3⟩ := id hf
  have s1 := sb_len3 f1
  have s2 := vb_len r.n.toNat_lt
  have s3 := vb_len (n := r.rs.length) (by omega)
  have hh : (headR r).length ≤ 301000 := by unfold headR; simp only [D, F, G]; omega
  refine Cll.code rfl rfl ?_
  refine WC.env [(0, _)] rfl ?_
  refine J (WC.run (WS.box W [_, _, _, _] rfl rfl rfl rfl ?_))
  intro p1 h2 M3
  refine C rfl rfl (U [(1, _)] rfl ?_)
  refine J (WC.run (WS.opV (.agg #[(.slice none 0 0)]) rfl rfl rfl ?_))
  refine WS.box M3 [_] rfl rfl rfl rfl ?_
  intro p4 h5 M6
  refine C rfl rfl (U [(1, _), (3, _)] rfl ?_)
  refine J (WC.run (C rfl rfl (C rfl rfl ?_)))
  refine WS.call rfl rfl rfl (walkResW_ran (r := r) A (by assumption) (Row.Own.nil (K := KU8)) ((M6.focus 1 rfl).focus 1 rfl).nils (by simp)) ?_
  rintro _ h7 ⟨V9, S10, O11, rfl, M8⟩
  rw [List.nil_append] at O11
  obtain ⟨P12, rfl⟩ := O11.shape
  replace M8 : Mem _ _ (S10 :: [(p4, _)] :: [(p1, _)] :: []) _ := M8
  refine U [(1, _), (3, _)] rfl ?_
  refine J (J (WC.run (C rfl rfl (C rfl (op_ld (M8.at 2 rfl) rfl rfl) (C rfl (op_lenVS A rfl) (C rfl rfl (U [(1, _), (3, _), (12, _), (13, _)] rfl ?_)))))))
  refine WC.block ?_
  obtain ⟨L13, eL15, M14⟩ := Mem.name2 ((M8.bare.focus 1 rfl).focus 1 rfl)
  refine WC.loop (σ := Value × Seg × List UInt8 × Nat) (fun ((V_, S_, out, i)) => [(1, (.pointer (some ⟨p1, 0, none⟩))), (3, (.pointer (some ⟨p4, 0, none⟩))), (12, (.int .i64 (((r.rs).length : Nat) : Int))), (13, (.int .i64 ((i : Nat) : Int)))]) (fun ((V_, S_, out, i)) hh => Mem h hh (S_ :: [(p4, ⟨[V_], 0, false⟩)] :: L13) [] ∧ KU8.Own V_ out S_ ∧ out = headR r ++ (r.rs.take i).flatMap rowR ∧ i ≤ r.rs.length ∧ out.length ≤ 301000 + 610000 * i) (fun ((V_, S_, out, i)) => r.rs.length - i) ((.slice P12 ((headR r)).length (2 * ((headR r)).length)), S10, (headR r), 0) rfl ⟨(by exact M14), ?_⟩ ?_
  · exact ⟨by assumption, by simp, by omega, by omega⟩
  ·rintro ⟨V_, S_, out, i⟩ h16 ⟨M17, ⟨hO, hE, hi1, hol⟩⟩
   replace eL15 := eL15.symm; subst eL15
   refine WC.env [(1, _), (3, _), (12, _), (13, _)] rfl ?_
   obtain ⟨P_, rfl⟩ := hO.shape
   refine J (WC.run (WS.lssN (a := i) (b := (r.rs).length) rfl rfl rfl (fun e14 => ?_) (fun e14 => ?_)))
   ·
    refine U [(1, _), (3, _), (12, _), (13, _), (14, _)] rfl ?_
    refine J (WC.condT rfl (WC.skip (J (WC.block (J (WC.run (C rfl rfl (C rfl rfl (U [(1, _), (3, _), (4, _), (12, _), (13, _)] rfl ?_)))))))))
    refine WC.run (C rfl rfl (C rfl rfl (C rfl rfl (C rfl (op_ld (M17.at 2 rfl) rfl rfl) (C rfl rfl ?_)))))
    obtain ⟨y21, hy21⟩ : ∃ y, (r.rs)[i]? = some y := ⟨_, List.getElem?_eq_getElem (show i < (r.rs).length by first | omega | (simp only [List.length_drop, List.length_take, D, F, G, List.length_singleton]; omega) | (simp only [List.length_drop, List.length_take, D, F, G, List.length_singleton] at *; omega))⟩
    refine WS.iaVS A i hy21 rfl rfl rfl rfl ?_
    intro b21_ o21_ ha21
    refine WS.call rfl rfl rfl (walkRowW_ran (x := y21) ha21 hO ((M17.focus 1 rfl).focus 1 rfl) (by exact ⟨by omega, f3 _ (List.mem_of_getElem? hy21)⟩)) ?_
    rintro _ h18 ⟨V20, S21, O22, rfl, M19⟩
    obtain ⟨P23, rfl⟩ := O22.shape
    replace M19 : Mem _ _ (S21 :: [(p4, _)] :: [(p1, _)] :: []) _ := M19
    refine U [(1, _), (3, _), (12, _), (13, _)] rfl ?_
    refine WC.run (WS.opV (.int .i64 (((i + 1) : Nat) : Int)) rfl rfl (add_i64 (a := i) (b := 1) (by omega)) (C rfl rfl (U [(1, _), (3, _), (12, _), (13, _)] rfl ?_)))
    refine ⟨((.slice P23 ((out ++ rowR y21)).length (2 * ((out ++ rowR y21)).length)), S21, (out ++ rowR y21), i + 1), rfl, ⟨((((M19.bare.focus 2 rfl).focus 2 rfl).focus 2 rfl).take 3), ?_⟩, ?_⟩
    · exact ⟨by assumption, by rw [flatMap_take_succ rowR hy21, hE]; simp, by omega, by have t0 := f3 _ (List.mem_of_getElem? hy21); have t1 := sb_len3 t0.1; have t2 := sb_len3 t0.2; have t3 := vb_len y21.vn.toNat_lt; simp only [rowR, D]; omega⟩
    · simp only []; omega
   ·
    refine U [(1, _), (3, _), (12, _), (13, _), (14, _)] rfl ?_
    refine J (WC.condF rfl (WC.exit ?_))
    refine J (WC.run (C rfl rfl (C rfl rfl (C rfl rfl (C rfl (op_ld (M17.at 1 rfl) rfl rfl) (C rfl (op_cvBO hO (Mem.owni M17 0 rfl) rfl) (C rfl rfl (U [(2, _)] rfl ?_))))))))
    refine WC.ret (⟨[_], (res_tmp rfl res_nil), ?_⟩)
    rw [List.take_of_length_le (by omega)] at hE
    exact ⟨by rw [hE]; rfl, M17.bare.take 0⟩
set_option maxRecDepth 8000 in
theorem refWriteR_ran (W : Mem h h [] []) {r : Res} {V : Value} (A : KRrow.Sl h V r.rs) (hf : FitRes r) : Cll tab0 28 [r.val V] h (fun v h2 => v = .string (bs (encR r)) ∧ Mem h h2 [] []) := by
  obtain ⟨P, n, rfl⟩ := A.shape
  obtain ⟨f1, f2, f3⟩ := id hf
  have s1 := sb_len3 f1
  have s2 := vb_len r.n.toNat_lt
  have u1 := r.n.toNat_lt
  have s3 := vb_len (n := r.rs.length) (by omega)
  refine Cll.code rfl rfl ?_
  refine WC.env [(0, _)] rfl ?_
  refine J (WC.run (WS.box W [_, _, _, _] rfl rfl rfl rfl ?_))
  intro p1 h2 M3
  refine C rfl rfl (U [(1, _)] rfl ?_)
  refine J (WC.draw M3 [] rfl ?_)
  intro rb4 h5 M6
  refine C rfl rfl (C rfl (op_ld (M6.at 0 rfl) rfl rfl) (WS.opV (.int .i64 (((r.cd).toNat : Nat) : Int)) rfl rfl (cv_i64 (n := (r.cd).toNat) (by have := UInt8.toNat_lt (r.cd); omega)) (C rfl rfl (C rfl (op_ld (M6.at 0 rfl) rfl rfl) (C rfl rfl (C rfl (op_ld (M6.at 0 rfl) rfl rfl) (C rfl rfl (C rfl (op_ld (M6.at 0 rfl) rfl rfl) (C rfl (op_lenVS A rfl) ?_)))))))))
  refine WS.opV (.int .u64 (((r.rs).length : Nat) : Int)) rfl rfl (cv_u64 (n := (r.rs).length) (by omega)) ?_
  refine WS.call rfl rfl rfl (one_ran M6.here (n := (r.cd).toNat) (b := r.cd) (by first | rfl | simp)) ?_
  rintro _ h7 ⟨rfl, N8⟩
  have M9 := M6.trans N8
  refine WS.chk rfl (op_ld (M9.at 0 rfl) rfl rfl) rfl (sameV_refl rfl) (WS.chk rfl (op_ld (M9.at 0 rfl) rfl rfl) rfl (sameV_refl rfl) (WS.chk rfl (op_ld (M9.at 0 rfl) rfl rfl) rfl same_sl ?_))
  refine WS.call rfl rfl rfl (ref_One_ran M9.here (n := ((r.n).toNat)) (by omega)) ?_
  rintro _ h10 ⟨rfl, N11⟩
  have M12 := M9.trans N11
  refine WS.chk rfl (op_ld (M12.at 0 rfl) rfl rfl) rfl (sameV_refl rfl) (WS.chk rfl (op_ld (M12.at 0 rfl) rfl rfl) rfl same_sl (C rfl (op_sadd (l := [r.cd]) (m := (vb ((r.n).toNat))) rfl rfl (by first | omega | (simp only [D, F, G]; omega))) ?_))
  refine WS.call rfl rfl rfl (text_ran M12.here (l := r.va) (by omega)) ?_
  rintro _ h14 ⟨rfl, N15⟩
  have M16 := M12.trans N15
  refine WS.chk rfl (op_ld (M16.at 0 rfl) rfl rfl) rfl same_sl (C rfl (op_sadd (l := ([r.cd] ++ (vb ((r.n).toNat)))) (m := (sb r.va)) rfl rfl (by first | omega | (simp only [D, F, G]; omega))) ?_)
  refine WS.call rfl rfl rfl (ref_One_ran M16.here (n := ((r.rs).length)) (by omega)) ?_
  rintro _ h17 ⟨rfl, N18⟩
  have M19 := M16.trans N18
  refine C rfl (op_sadd (l := (([r.cd] ++ (vb ((r.n).toNat))) ++ (sb r.va))) (m := (vb ((r.rs).length))) rfl rfl (by first | omega | (simp only [D, F, G]; omega))) (C rfl rfl (U [(1, _), (3, _)] rfl ?_))
  refine J (J (WC.run (C rfl rfl (U [(1, _), (3, _), (4, _)] rfl ?_))))
  refine WC.block ?_
  obtain ⟨L21, eL23, M22⟩ := Mem.name M19.bare.bare
  refine WC.loop (σ := List UInt8 × Nat) (fun ((out, i)) => [(1, (.pointer (some ⟨p1, 0, none⟩))), (3, (.string (bs out))), (4, (.int .i64 ((i : Nat) : Int)))]) (fun ((out, i)) hh => Mem h hh (L21) [] ∧ out = headR r ++ (r.rs.take i).flatMap rowR ∧ i ≤ r.rs.length ∧ out.length ≤ 301000 + 610000 * i) (fun ((out, i)) => r.rs.length - i) (((([r.cd] ++ (vb ((r.n).toNat))) ++ (sb r.va)) ++ (vb ((r.rs).length))), 0) rfl ⟨M22, ?_⟩ ?_
  · exact ⟨by simp [headR], by omega, by simp only [D, F, G]; omega⟩
  ·rintro ⟨out, i⟩ h24 ⟨M25, ⟨hE, hi1, hol⟩⟩
   replace eL23 := eL23.symm; subst eL23
   refine WC.env [(1, _), (3, _), (4, _)] rfl ?_
   refine J (J (WC.run (C rfl rfl (C rfl rfl (C rfl (op_ld (M25.at 0 rfl) rfl rfl) (C rfl (op_lenVS A rfl) ?_))))))
   refine WS.lssN (a := i) (b := (r.rs).length) rfl rfl rfl (fun e27 => ?_) (fun e27 => ?_)
   ·
    refine U [(1, _), (3, _), (4, _), (27, _)] rfl ?_
    refine WC.condT rfl (WC.skip (J (WC.block (WC.draw M25 [] rfl ?_))))
    intro rb26 h27 M28
    refine C rfl rfl (C rfl rfl (C rfl (op_ld (M28.at 0 rfl) rfl rfl) (C rfl rfl ?_)))
    obtain ⟨y34, hy34⟩ : ∃ y, (r.rs)[i]? = some y := ⟨_, List.getElem?_eq_getElem (show i < (r.rs).length by first | omega | (simp only [List.length_drop, List.length_take, D, F, G, List.length_singleton]; omega) | (simp only [List.length_drop, List.length_take, D, F, G, List.length_singleton] at *; omega))⟩
    refine WS.iaVS A i hy34 rfl rfl rfl rfl ?_
    intro b34_ o34_ ha34
    refine C rfl rfl (C rfl (op_ldH rfl (At.ld0 (ha34.mono M28.sub) rfl)) (C rfl rfl (C rfl (op_ld (M28.at 0 rfl) rfl rfl) (C rfl rfl ?_))))
    refine WS.iaVS A i hy34 rfl rfl rfl rfl ?_
    intro b42_ o42_ ha42
    refine C rfl rfl (C rfl (op_ldH rfl (At.ld (ha42.mono M28.sub) rfl)) (C rfl rfl (C rfl (op_ld (M28.at 0 rfl) rfl rfl) (C rfl rfl ?_))))
    refine WS.iaVS A i hy34 rfl rfl rfl rfl ?_
    intro b50_ o50_ ha50
    refine C rfl rfl (C rfl (op_ldH rfl (At.ld (ha50.mono M28.sub) rfl)) ?_)
    have t0 := f3 _ (List.mem_of_getElem? hy34)
    have t1 := sb_len3 t0.1
    have t2 := sb_len3 t0.2
    have t3 := vb_len y34.vn.toNat_lt
    have t4 := y34.vn.toNat_lt
    refine WS.call rfl rfl rfl (text_ran M28.here (l := y34.ky) (by omega)) ?_
    rintro _ h29 ⟨rfl, N30⟩
    have M31 := M28.trans N30
    refine WS.chk rfl (op_ld (M31.at 0 rfl) rfl rfl) rfl same_sl (WS.chk rfl (op_ldH rfl (At.ld (ha42.mono M31.sub) rfl)) rfl (sameV_refl rfl) (WS.chk rfl (op_ld (M31.at 0 rfl) rfl rfl) rfl same_sl (WS.chk rfl (op_ldH rfl (At.ld (ha50.mono M31.sub) rfl)) rfl (sameV_refl rfl) (C rfl (op_sadd (l := out) (m := (sb y34.ky)) rfl rfl (by first | omega | (simp only [D, F, G]; omega))) ?_))))
    refine WS.call rfl rfl rfl (text_ran M31.here (l := y34.va) (by omega)) ?_
    rintro _ h32 ⟨rfl, N33⟩
    have M34 := M31.trans N33
    refine WS.chk rfl (op_ld (M34.at 0 rfl) rfl rfl) rfl same_sl (WS.chk rfl (op_ldH rfl (At.ld (ha50.mono M34.sub) rfl)) rfl (sameV_refl rfl) (C rfl (op_sadd (l := (out ++ (sb y34.ky))) (m := (sb y34.va)) rfl rfl (by first | omega | (simp only [D, F, G]; omega))) ?_))
    refine WS.call rfl rfl rfl (ref_One_ran M34.here (n := ((y34.vn).toNat)) (by omega)) ?_
    rintro _ h35 ⟨rfl, N36⟩
    have M37 := M34.trans N36
    refine C rfl (op_sadd (l := ((out ++ (sb y34.ky)) ++ (sb y34.va))) (m := (vb ((y34.vn).toNat))) rfl rfl (by first | omega | (simp only [D, F, G]; omega))) (C rfl rfl (U [(1, _), (3, _), (4, _)] rfl ?_))
    refine WC.run (C rfl rfl (WS.opV (.int .i64 (((i + 1) : Nat) : Int)) rfl rfl (add_i64 (a := i) (b := 1) (by omega)) (C rfl rfl (U [(1, _), (3, _), (4, _)] rfl ?_))))
    refine ⟨((((out ++ (sb y34.ky)) ++ (sb y34.va)) ++ (vb ((y34.vn).toNat))), i + 1), rfl, ⟨((M37.bare.bare.focus 0 rfl).take 1), ?_⟩, ?_⟩
    · exact ⟨by rw [flatMap_take_succ rowR hy34, hE]; simp [rowR], by omega, by simp only [D, F, G]; omega⟩
    · simp only []; omega
   ·
    refine U [(1, _), (3, _), (4, _), (27, _)] rfl ?_
    refine WC.condF rfl (WC.exit ?_)
    refine J (WC.run (C rfl rfl (C rfl rfl (U [(2, _)] rfl ?_))))
    refine WC.ret (⟨[_], (res_tmp rfl res_nil), ?_⟩)
    rw [List.take_of_length_le (by omega)] at hE
    exact ⟨by rw [hE]; rfl, M25.bare.take 0⟩
theorem opens_9 : OpensL Try.prog 9 layStr 1 (fun a => a.length < 9223372036854775808) := OpensL.string Try.underlying9 (by kernel_rfl)
theorem opens_28 : OpensL Try.prog 28 layU64 1 (fun _ => True) := OpensL.u64 Try.underlying28 (by kernel_rfl)
set_option maxRecDepth 100000 in
theorem opens_56 : OpensL Try.prog 56 (α := Rrow) (fun _ y cs => cs = KRrow.cells y) 3 (fun y => y.ky.length < 9223372036854775808 ∧ y.va.length < 9223372036854775808) := by
  refine OpensL.struct (fs := [(9, 0), (9, 1), (28, 2)]) (L := (layP layStr (layP layStr layU64))) (mk := fun (ky, va, vn) => ⟨ky, va, vn⟩) ?_ ?_ (by kernel_rfl) (by kernel_rfl) (OpensLF.cons (by decide) (by decide) opens_9 (OpensLF.cons (by decide) (by decide) opens_9 (OpensLF.one opens_28)))
  · rintro h ⟨ky, va, vn⟩ cs ⟨_, _, rfl, rfl, ⟨_, _, rfl, rfl, rfl⟩⟩
    rfl
  · rintro ⟨ky, va, vn⟩ ⟨k0, k1, k2⟩
    exact ⟨k0, k1⟩
theorem opens_29 : OpensL Try.prog 29 (laySl (fun _ y cs => cs = KRrow.cells y) 3) 1 (fun l => l.length < 9223372036854775808 ∧ ∀ x ∈ l, (fun y => y.ky.length < 9223372036854775808 ∧ y.va.length < 9223372036854775808) x) := OpensL.slice Try.underlying29 (by kernel_rfl) (by decide) opens_56
theorem opens_5 : OpensL Try.prog 5 layU8 1 (fun _ => True) := OpensL.u8 Try.underlying5 (by kernel_rfl)
set_option maxRecDepth 100000 in
theorem opens_31 : OpensL Try.prog 31 (α := Res) (fun h c cs => ∃ V, cs = Res.cells c V ∧ SlL (fun _ y cs => cs = KRrow.cells y) 3 h V c.rs) 4 (fun r => r.va.length < 9223372036854775808 ∧ r.rs.length < 9223372036854775808 ∧ ∀ p ∈ r.rs, p.ky.length < 9223372036854775808 ∧ p.va.length < 9223372036854775808) := by
  refine OpensL.struct (fs := [(5, 0), (28, 1), (9, 2), (29, 3)]) (L := (layP layU8 (layP layU64 (layP layStr (laySl (fun _ y cs => cs = KRrow.cells y) 3))))) (mk := fun (cd, n, va, rs) => ⟨cd, n, va, rs⟩) ?_ ?_ (by kernel_rfl) (by kernel_rfl) (OpensLF.cons (by decide) (by decide) opens_5 (OpensLF.cons (by decide) (by decide) opens_28 (OpensLF.cons (by decide) (by decide) opens_9 (OpensLF.one opens_29))))
  · rintro h ⟨cd, n, va, rs⟩ cs ⟨_, _, rfl, rfl, ⟨_, _, rfl, rfl, ⟨_, _, rfl, rfl, ⟨V, rfl, hS⟩⟩⟩⟩
    exact ⟨V, rfl, hS⟩
  · rintro ⟨cd, n, va, rs⟩ ⟨k0, k1, k2, k3⟩
    exact ⟨k2, k3⟩
end Go.Proofs.Ytomaijljeacpjaa.Wt
namespace Go.Proofs.Ytomaijljeacpjaa.Wt
open Go Go.Proofs.Ytomaijljeacpjaa.Am Go.Proofs.Ytomaijljeacpjaa.IrAll
open Go.Proofs.Ytomaijljeacpjaa.Am.WS renaming op → C
open Nat renaming le_of_ble_eq_true → D
open List renaming length_drop → F
open List renaming length_singleton → G
set_option linter.unusedVariables false
set_option linter.unusedSimpArgs false
variable {h base : H} {L : List Seg} {R : List Nat}
theorem splice_set {cells : List Value} {k : Nat} {v : Value} (h : k < cells.length) : splice cells k [v] = cells.set k v := by
  unfold splice; rw [List.set_eq_take_append_cons_drop, if_pos h]; simp
theorem set_same {α : Type} {l : List α} {i : Nat} {y : α} (hy : l[i]? = some y) : l.set i y = l := by
  apply List.ext_getElem?
  intro j
  rw [List.getElem?_set]
  split
  · rename_i e; subst e; rw [if_pos (List.getElem?_eq_some_iff.1 hy).1, hy]
  · rfl
theorem r_skip_ran {r n : Nat} {s : List UInt8} {b ok : Bool} (M : Mem base h ([(r, ⟨[.string (bs s), .bool b], 0, false⟩)] :: L) []) (hl : s.length ≤ 1000000) : Cll tab0 76 [.pointer (some ⟨r, 0, none⟩), .int .i64 (n : Int), .bool ok] h (fun v h2 => ∃ s' b', v = .bool (!b') ∧ Mem base h2 ([(r, ⟨[.string (bs s'), .bool b'], 0, false⟩)] :: L) [] ∧ (b' = false → b = false ∧ ok = true ∧ n ≤ s.length ∧ s' = s.drop n) ∧ (b' = true → s' = s) ∧ (b = false → ok = true → n ≤ s.length → b' = false)) := by
  refine Cll.code rfl rfl ?_
  refine WC.env [(0, _), (1, _), (2, _)] rfl ?_
  refine WC.seq (WC.run (C rfl rfl (WS.nil [(0, _), (1, _), (2, _)] rfl ?_)))
  refine WC.seq (WC.seq (WC.run (C rfl rfl (C rfl rfl (C rfl rfl (C rfl rfl (C rfl (op_ld (M.at 0 rfl) rfl rfl) (C rfl rfl ?_))))))))
  cases hb1 : b
  ·
   refine C rfl rfl ?_
   cases hb2 : ok
   ·
    refine WS.opV (.bool true) rfl rfl rfl (C rfl rfl (C rfl rfl (WS.off rfl (WS.off rfl (WS.off rfl (WS.off rfl (WS.off rfl (WS.off rfl (WS.off rfl ?_)))))))))
    refine C rfl rfl (C rfl rfl (C rfl rfl ?_))
    refine WS.st1 (M.focus 0 rfl) [_] [_, _] rfl rfl rfl rfl rfl (D rfl) (D rfl) rfl rfl ?_
    intro h1 M2
    replace M2 : Mem _ _ ([(r, _)] :: L) _ := M2
    refine WS.nil [(0, _), (1, _)] rfl ?_
    refine WC.seq (WC.run (C rfl rfl (C rfl rfl (C rfl rfl (C rfl (op_ld (M2.at 0 rfl) rfl rfl) (WS.nil [(0, _), (1, _), (30, _)] rfl ?_))))))
    refine WC.condT rfl (WC.seq (WC.run (C rfl rfl (WS.nil [(6, _)] rfl ?_))))
    refine WC.ret (⟨[_], (res_tmp rfl res_nil), ?_⟩)
    exact ⟨_, true, rfl, M2, fun q => (nomatch q), fun _ => rfl, fun u1 u2 u3 => by first | (cases u1; done) | (cases u2; done) | (rw [hb1] at u1; cases u1; done) | (rw [hb1] at u2; cases u2; done) | (rw [hb2] at u2; cases u2; done) | (exfalso; omega)⟩
   ·
    refine WS.opV (.bool false) rfl rfl rfl (C rfl rfl (C rfl rfl (C rfl rfl (C rfl rfl (C rfl rfl (C rfl rfl (C rfl (op_ld (M.at 0 rfl) rfl rfl) (C rfl (op_lenS (l := s) rfl) ?_))))))))
    refine WS.gtrN (a := n) (b := (s).length) rfl rfl rfl (fun e23 => ?_) (fun e23 => ?_)
    ·
     refine C rfl rfl (C rfl rfl (C rfl rfl ?_))
     refine WS.st1 (M.focus 0 rfl) [_] [_, _] rfl rfl rfl rfl rfl (D rfl) (D rfl) rfl rfl ?_
     intro h3 M4
     replace M4 : Mem _ _ ([(r, _)] :: L) _ := M4
     refine WS.nil [(0, _), (1, _)] rfl ?_
     refine WC.seq (WC.run (C rfl rfl (C rfl rfl (C rfl rfl (C rfl (op_ld (M4.at 0 rfl) rfl rfl) (WS.nil [(0, _), (1, _), (30, _)] rfl ?_))))))
     refine WC.condT rfl (WC.seq (WC.run (C rfl rfl (WS.nil [(6, _)] rfl ?_))))
     refine WC.ret (⟨[_], (res_tmp rfl res_nil), ?_⟩)
     exact ⟨_, true, rfl, M4, fun q => (nomatch q), fun _ => rfl, fun u1 u2 u3 => by first | (cases u1; done) | (cases u2; done) | (rw [hb1] at u1; cases u1; done) | (rw [hb1] at u2; cases u2; done) | (rw [hb2] at u2; cases u2; done) | (exfalso; omega)⟩
    ·
     refine C rfl rfl (C rfl rfl (C rfl rfl ?_))
     refine WS.st1 (M.focus 0 rfl) [_] [_, _] rfl rfl rfl rfl rfl (D rfl) (D rfl) rfl rfl ?_
     intro h5 M6
     replace M6 : Mem _ _ ([(r, _)] :: L) _ := M6
     refine WS.nil [(0, _), (1, _)] rfl ?_
     refine WC.seq (WC.run (C rfl rfl (C rfl rfl (C rfl rfl (C rfl (op_ld (M6.at 0 rfl) rfl rfl) (WS.nil [(0, _), (1, _), (30, _)] rfl ?_))))))
     refine WC.condF rfl (WC.skip (WC.seq (WC.run (C rfl rfl (C rfl rfl (C rfl rfl (C rfl rfl (C rfl (op_ld (M6.at 0 rfl) rfl rfl) (C rfl rfl (C rfl (op_slS0 (l := s) n rfl rfl (by first | omega | (simp only [F, List.length_take, List.length_append, List.length_cons, List.length_nil, G]; omega) | (simp only [F, List.length_take, List.length_append, List.length_cons, List.length_nil, G] at *; omega))) (C rfl rfl (C rfl rfl ?_))))))))))))
     refine WS.st1 (M6.focus 0 rfl) [_] [_, _] rfl rfl rfl rfl rfl (D rfl) (D rfl) rfl rfl ?_
     intro h7 M8
     replace M8 : Mem _ _ ([(r, _)] :: L) _ := M8
     refine WS.nil [] rfl ?_
     refine WC.seq (WC.run (C rfl rfl (WS.nil [(6, _)] rfl ?_)))
     refine WC.ret (⟨[_], (res_tmp rfl res_nil), ?_⟩)
     exact ⟨_, false, rfl, M8, fun _ => ⟨by first | assumption | rfl, by first | assumption | rfl, by omega, rfl⟩, fun q => (nomatch q), fun _ _ _ => rfl⟩
  ·
   refine WS.off rfl (WS.off rfl (C rfl rfl (C rfl rfl (WS.off rfl (WS.off rfl (WS.off rfl (WS.off rfl (WS.off rfl (WS.off rfl ?_)))))))))
   refine WS.off rfl (C rfl rfl (C rfl rfl (C rfl rfl ?_)))
   refine WS.st1 (M.focus 0 rfl) [_] [_, _] rfl rfl rfl rfl rfl (D rfl) (D rfl) rfl rfl ?_
   intro h9 M10
   replace M10 : Mem _ _ ([(r, _)] :: L) _ := M10
   refine WS.nil [(0, _), (1, _)] rfl ?_
   refine WC.seq (WC.run (C rfl rfl (C rfl rfl (C rfl rfl (C rfl (op_ld (M10.at 0 rfl) rfl rfl) (WS.nil [(0, _), (1, _), (30, _)] rfl ?_))))))
   refine WC.condT rfl (WC.seq (WC.run (C rfl rfl (WS.nil [(6, _)] rfl ?_))))
   refine WC.ret (⟨[_], (res_tmp rfl res_nil), ?_⟩)
   exact ⟨_, true, rfl, M10, fun q => (nomatch q), fun _ => rfl, fun u1 u2 u3 => by first | (cases u1; done) | (cases u2; done) | (rw [hb1] at u1; cases u1; done) | (rw [hb1] at u2; cases u2; done) | (rw [hb2] at u2; cases u2; done) | (exfalso; omega)⟩
theorem r_byte_ran {r q k es : Nat} {s : List UInt8} {b : Bool} {cells : List Value} {old : UInt8} (M : Mem base h ([(r, ⟨[.string (bs s), .bool b], 0, false⟩)] :: [(q, ⟨cells, es, false⟩)] :: L) []) (hk : cells[k]? = some (.int .u8 ((old.toNat : Nat) : Int))) (hl : s.length ≤ 1000000) :
    Cll tab0 73 [.pointer (some ⟨r, 0, none⟩), .pointer (some ⟨q, k, none⟩)] h (fun v h2 => ∃ s' b' c, v = .tuple #[] ∧ Mem base h2 ([(r, ⟨[.string (bs s'), .bool b'], 0, false⟩)] :: [(q, ⟨cells.set k (.int .u8 ((UInt8.toNat c : Nat) : Int)), es, false⟩)] :: L) [] ∧ s'.length ≤ s.length ∧ (b' = false → b = false ∧ s = c :: s') ∧ (∀ c0 t, b = false → s = c0 :: t → b' = false ∧ c = c0 ∧ s' = t)) := by
  have hkl := (List.getElem?_eq_some_iff.1 hk).1
  refine Cll.code rfl rfl ?_
  refine WC.env [(0, _), (1, _)] rfl ?_
  refine WC.seq (WC.run (C rfl rfl (C rfl rfl (C rfl rfl (C rfl (op_ld (M.at 0 rfl) rfl rfl) (C rfl rfl (WS.nil [(0, _), (1, _), (4, _)] rfl ?_)))))))
  refine WC.seq (WC.run (C rfl rfl ?_))
  refine WS.call rfl rfl rfl (r_skip_ran (s := s) (b := b) (n := 1) (ok := true) (M.focus 0 rfl) (by omega)) ?_
  rintro _ h1 ⟨s', b', rfl, M2, q1, q2, q3⟩
  replace M2 : Mem _ _ ([(r, _)] :: [(q, _)] :: L) _ := M2
  refine WS.nil [(1, _), (4, _), (10, _)] rfl ?_
  cases hb1 : (!b')
  ·
   refine WC.condF rfl (WC.skip (⟨[], res_nil, ?_⟩))
   have g0 : b' = true := by simpa using hb1
   exact ⟨_, _, old, rfl, by rw [set_same hk]; exact M2, by rw [q2 g0]; exact Nat.le_refl _, fun q => by rw [g0] at q; exact absurd q (by decide), fun c0 t u e => by have := q3 u rfl (by subst e; simp); rw [g0] at this; exact absurd this (by decide)⟩
  ·
   refine WC.condT rfl (WC.run (C rfl rfl (C rfl rfl ?_)))
   obtain ⟨g1, g2, g3, g4⟩ := q1 (by simpa using hb1)
   obtain ⟨c, hc⟩ : ∃ c, (s)[0]? = some c := ⟨_, List.getElem?_eq_getElem (show 0 < (s).length by first | omega | (simp only [F, List.length_take, List.length_append, List.length_cons, List.length_nil, G]; omega) | (simp only [F, List.length_take, List.length_append, List.length_cons, List.length_nil, G] at *; omega))⟩
   refine C rfl (op_ixS 0 rfl rfl hc) (C rfl rfl ?_)
   refine WS.st1 (M2.focus 1 rfl) [(.int .u8 (((c).toNat : Nat) : Int))] (cells.set k (.int .u8 (((c).toNat : Nat) : Int))) rfl rfl rfl rfl rfl (D rfl) (by exact hkl) rfl (splice_set hkl) ?_
   intro h3 M4
   replace M4 : Mem _ _ ([(q, _)] :: [(r, _)] :: L) _ := M4
   refine WS.nil [] rfl ?_
   refine ⟨[], res_nil, ?_⟩
   exact ⟨_, _, c, rfl, ((M4.focus 0 rfl).focus 1 rfl), by rw [g4, F]; omega, fun q => ⟨g1, by rw [g4]; simpa using drop_cons hc⟩, fun c0 t _ e => ⟨by simpa using hb1, by subst e; simpa using hc.symm, by subst e; rw [g4]; rfl⟩⟩
theorem r_number_ran {r q k es : Nat} {s : List UInt8} {b : Bool} {cells : List Value} {old : UInt64} (M : Mem base h ([(r, ⟨[.string (bs s), .bool b], 0, false⟩)] :: [(q, ⟨cells, es, false⟩)] :: L) []) (hk : cells[k]? = some (.int .u64 ((old.toNat : Nat) : Int))) (hl : s.length ≤ 1000000) :
    Cll tab0 74 [.pointer (some ⟨r, 0, none⟩), .pointer (some ⟨q, k, none⟩)] h (fun v h2 => ∃ s' b' c, v = .tuple #[] ∧ Mem base h2 ([(r, ⟨[.string (bs s'), .bool b'], 0, false⟩)] :: [(q, ⟨cells.set k (.int .u64 ((UInt64.toNat c : Nat) : Int)), es, false⟩)] :: L) [] ∧ s'.length ≤ s.length ∧ (b' = false → b = false ∧ s = vb c.toNat ++ s') ∧ (∀ (m : Nat) t, m < 18446744073709551616 → b = false → s = vb m ++ t → b' = false ∧ c.toNat = m ∧ s' = t)) := by
  have hkl := (List.getElem?_eq_some_iff.1 hk).1
  refine Cll.code rfl rfl ?_
  refine WC.env [(0, _), (1, _)] rfl ?_
  refine WC.seq (WC.run (C rfl rfl (C rfl rfl (C rfl rfl (C rfl (op_ld (M.at 0 rfl) rfl rfl) ?_)))))
  refine WS.call rfl rfl rfl (num_ReadV_ran M.here (l := s) (by first | omega | (simp only [F, List.length_take, List.length_append, List.length_cons, List.length_nil, G]; omega) | (simp only [F, List.length_take, List.length_append, List.length_cons, List.length_nil, G] at *; omega))) ?_
  rintro _ h1 ⟨rfl, N2⟩
  have M3 := M.trans N2
  refine C rfl rfl (WS.opV (.int .u64 (((UInt64.ofNat (rvN s)).toNat : Nat) : Int)) rfl rfl (u64_ofNat (n := (rvN s)) (by have := rvN_lt s; omega)) (C rfl rfl (C rfl rfl (C rfl rfl (C rfl rfl (C rfl rfl (WS.nil [(0, _), (1, _), (4, _), (5, _), (6, _)] rfl ?_)))))))
  refine WC.seq (WC.run (C rfl rfl (C rfl rfl (C rfl rfl ?_))))
  refine WS.call rfl rfl rfl (r_skip_ran (s := s) (b := b) (n := (rvK s)) (ok := (rvOK s)) (M3.focus 0 rfl) (by omega)) ?_
  rintro _ h5 ⟨s', b', rfl, M6, q1, q2, q3⟩
  replace M6 : Mem _ _ ([(r, _)] :: [(q, _)] :: L) _ := M6
  refine WS.nil [(1, _), (4, _), (19, _)] rfl ?_
  cases hb1 : (!b')
  ·
   refine WC.condF rfl (WC.skip (⟨[], res_nil, ?_⟩))
   have g0 : b' = true := by first | simpa using hb1 | simpa using hb2
   exact ⟨_, _, old, rfl, by rw [set_same hk]; exact M6, by rw [q2 g0]; exact Nat.le_refl _, fun q => by rw [g0] at q; exact absurd q (by decide), fun m t hm u e => by obtain ⟨f1, f2, f3⟩ := rv_eq_some (show getV s = some (m, (vb m).length) by rw [e]; exact getV_vb hm t); have := q3 u f3 (rvK_le s).1; rw [g0] at this; exact absurd this (by decide)⟩
  ·
   refine WC.condT rfl (WC.run (C rfl rfl (C rfl rfl (C rfl rfl ?_))))
   refine WS.st1 (M6.focus 1 rfl) [(.int .u64 (((UInt64.ofNat (rvN s)).toNat : Nat) : Int))] (cells.set k (.int .u64 (((UInt64.ofNat (rvN s)).toNat : Nat) : Int))) rfl rfl rfl rfl rfl (D rfl) (by exact hkl) rfl (splice_set hkl) ?_
   intro h7 M8
   replace M8 : Mem _ _ ([(q, _)] :: [(r, _)] :: L) _ := M8
   refine WS.nil [] rfl ?_
   refine ⟨[], res_nil, ?_⟩
   have g0 : b' = false := by first | simpa using hb1 | simpa using hb2
   obtain ⟨g1, g2, g3, g4⟩ := q1 g0
   exact ⟨_, _, UInt64.ofNat (rvN s), rfl, ((M8.focus 0 rfl).focus 1 rfl), by rw [g4, F]; omega, fun q => ⟨g1, by rw [n64 (rvN_lt s), g4]; exact (getV_some (show getV s = some (rvN s, rvK s) by rw [getV_eq, g2]; rfl)).1⟩, fun m t hm _ e => by obtain ⟨f1, f2, f3⟩ := rv_eq_some (show getV s = some (m, (vb m).length) by rw [e]; exact getV_vb hm t); exact ⟨g0, by rw [n64 (rvN_lt s), f1], by rw [g4, f2, e, List.drop_left]⟩⟩
theorem r_text_ran {r q k es : Nat} {s : List UInt8} {b : Bool} {cells : List Value} {old : List UInt8} (M : Mem base h ([(r, ⟨[.string (bs s), .bool b], 0, false⟩)] :: [(q, ⟨cells, es, false⟩)] :: L) []) (hk : cells[k]? = some (.string (bs old))) (hl : s.length ≤ 1000000) (ho : old = []) :
    Cll tab0 75 [.pointer (some ⟨r, 0, none⟩), .pointer (some ⟨q, k, none⟩)] h (fun v h2 => ∃ s' b' c, v = .tuple #[] ∧ Mem base h2 ([(r, ⟨[.string (bs s'), .bool b'], 0, false⟩)] :: [(q, ⟨cells.set k (.string (bs c)), es, false⟩)] :: L) [] ∧ s'.length ≤ s.length ∧ c.length ≤ s.length ∧ (b' = false → b = false ∧ s = sb c ++ s') ∧ (∀ u t, u.length < 18446744073709551616 → b = false → s = sb u ++ t → b' = false ∧ c = u ∧ s' = t)) := by
  have hkl := (List.getElem?_eq_some_iff.1 hk).1
  have hrs := rsT_le s
  refine Cll.code rfl rfl ?_
  refine WC.env [(0, _), (1, _)] rfl ?_
  refine WC.seq (WC.run (C rfl rfl (C rfl rfl (C rfl rfl (C rfl (op_ld (M.at 0 rfl) rfl rfl) ?_)))))
  refine WS.call rfl rfl rfl (num_ReadS_ran M.here (l := s) (by first | omega | (simp only [F, List.length_take, List.length_append, List.length_cons, List.length_nil, G]; omega) | (simp only [F, List.length_take, List.length_append, List.length_cons, List.length_nil, G] at *; omega))) ?_
  rintro _ h1 ⟨rfl, N2⟩
  have M3 := M.trans N2
  refine C rfl rfl (C rfl rfl (C rfl rfl (C rfl rfl (C rfl rfl (C rfl rfl (C rfl rfl (WS.nil [(0, _), (1, _), (4, _), (5, _), (6, _)] rfl ?_)))))))
  refine WC.seq (WC.run (C rfl rfl (C rfl rfl (C rfl rfl ?_))))
  refine WS.call rfl rfl rfl (r_skip_ran (s := s) (b := b) (n := (rsK s)) (ok := (rsOK s)) (M3.focus 0 rfl) (by omega)) ?_
  rintro _ h5 ⟨s', b', rfl, M6, q1, q2, q3⟩
  replace M6 : Mem _ _ ([(r, _)] :: [(q, _)] :: L) _ := M6
  refine WS.nil [(1, _), (4, _), (19, _)] rfl ?_
  cases hb1 : (!b')
  ·
   refine WC.condF rfl (WC.skip (⟨[], res_nil, ?_⟩))
   have g0 : b' = true := by first | simpa using hb1 | simpa using hb2
   exact ⟨_, _, old, rfl, by rw [set_same hk]; exact M6, by rw [q2 g0]; exact Nat.le_refl _, by subst ho; exact Nat.zero_le _, fun q => by rw [g0] at q; exact absurd q (by decide), fun u t hu v e => by obtain ⟨f1, f2, f3⟩ := rs_eq_some (show getS s = some (u, (sb u).length) by rw [e]; exact getS_sb hu t); have := q3 v f3 (rsK_le s); rw [g0] at this; exact absurd this (by decide)⟩
  ·
   refine WC.condT rfl (WC.run (C rfl rfl (C rfl rfl (C rfl rfl ?_))))
   refine WS.st1 (M6.focus 1 rfl) [(.string (bs (rsT s)))] (cells.set k (.string (bs (rsT s)))) rfl rfl rfl rfl rfl (D rfl) (by exact hkl) rfl (splice_set hkl) ?_
   intro h7 M8
   replace M8 : Mem _ _ ([(q, _)] :: [(r, _)] :: L) _ := M8
   refine WS.nil [] rfl ?_
   refine ⟨[], res_nil, ?_⟩
   have g0 : b' = false := by first | simpa using hb1 | simpa using hb2
   obtain ⟨g1, g2, g3, g4⟩ := q1 g0
   exact ⟨_, _, rsT s, rfl, ((M8.focus 0 rfl).focus 1 rfl), by rw [g4, F]; omega, hrs, fun q => ⟨g1, by rw [g4]; exact (getS_some (show getS s = some (rsT s, rsK s) by rw [getS_eq, g2]; rfl)).1⟩, fun u t hu _ e => by obtain ⟨f1, f2, f3⟩ := rs_eq_some (show getS s = some (u, (sb u).length) by rw [e]; exact getS_sb hu t); exact ⟨g0, f1, by rw [g4, f2, e, List.drop_left]⟩⟩
theorem well_ran (W : Mem h h [] []) {r : Nat} {s : List UInt8} {b : Bool} (hp : h.get r = some ⟨[.string (bs s), .bool b], 0, false⟩) : Cll tab0 53 [.pointer (some ⟨r, 0, none⟩)] h (fun v h2 => v = .bool (decide (b = false ∧ s = [])) ∧ Mem h h2 [] []) := by
  refine Cll.code rfl rfl ?_
  refine WC.env [(0, _)] rfl ?_
  refine WC.seq (WC.run (C rfl rfl (WS.nil [(0, _)] rfl ?_)))
  refine WC.seq (WC.run (C rfl rfl (C rfl rfl (C rfl rfl (C rfl (op_ld (W.sub _ _ hp) rfl rfl) ?_)))))
  cases hb1 : b
  ·
   refine WS.opV (.bool true) rfl rfl rfl (C rfl rfl (C rfl rfl (C rfl rfl (C rfl rfl (C rfl (op_ld (W.sub _ _ hp) rfl rfl) ?_)))))
   refine WS.seql (l := s) (m := []) rfl rfl rfl (fun e13 => ?_) (fun e13 => ?_)
   ·
    refine C rfl rfl (C rfl rfl (WS.nil [(2, _)] rfl ?_))
    refine WC.ret (⟨[_], (res_tmp rfl res_nil), ?_⟩)
    exact ⟨by rw [decide_eq_true ⟨by first | assumption | rfl, by assumption⟩]; rfl, W.bare.take 0⟩
   ·
    refine C rfl rfl (C rfl rfl (WS.nil [(2, _)] rfl ?_))
    refine WC.ret (⟨[_], (res_tmp rfl res_nil), ?_⟩)
    exact ⟨by rw [decide_eq_false (by rintro ⟨q1, q2⟩; first | exact absurd q2 (by assumption) | (cases q1; done) | (rw [hb1] at q1; cases q1))]; rfl, W.bare.take 0⟩
  ·
   refine WS.opV (.bool false) rfl rfl rfl (C rfl rfl (WS.off rfl (WS.off rfl (WS.off rfl (WS.off rfl (WS.off rfl (C rfl rfl (C rfl rfl (WS.nil [(2, _)] rfl ?_)))))))))
   refine WC.ret (⟨[_], (res_tmp rfl res_nil), ?_⟩)
   exact ⟨by rw [decide_eq_false (by rintro ⟨q1, q2⟩; first | exact absurd q2 (by assumption) | (cases q1; done) | (rw [hb1] at q1; cases q1))]; rfl, W.bare.take 0⟩
end Go.Proofs.Ytomaijljeacpjaa.Wt
namespace Go.Proofs.Ytomaijljeacpjaa.Wt
open Go Go.Proofs.Ytomaijljeacpjaa.Am Go.Proofs.Ytomaijljeacpjaa.IrAll
open Nat renaming le_of_ble_eq_true → C
open Go.Proofs.Ytomaijljeacpjaa.Am.WS renaming op → D
set_option linter.unusedVariables false
set_option linter.unusedSimpArgs false
variable {h base : H} {L : List Seg} {R : List Nat}
theorem walkRowR_ran {r p : Nat} {s : List UInt8} {b : Bool} (M : Mem base h ([(r, ⟨[.string (bs s), .bool b], 0, false⟩)] :: [(p, ⟨[.string (bs []), .string (bs []), .int .u64 0], 0, false⟩)] :: L) []) (hl : s.length ≤ 300000) :
    Cll tab0 52 [.iface 100 (.pointer (some ⟨r, 0, none⟩)), .pointer (some ⟨p, 0, none⟩)] h (fun v h2 => ∃ x s' b', v = .tuple #[] ∧ Mem base h2 ([(r, ⟨[.string (bs s'), .bool b'], 0, false⟩)] :: [(p, ⟨Rrow.cells x, 0, false⟩)] :: L) [] ∧ s'.length ≤ s.length ∧ (x.ky.length ≤ 300000 ∧ x.va.length ≤ 300000) ∧ (b' = false → b = false ∧ s = rowR x ++ s') ∧ (∀ x0 t, x0.ky.length ≤ 300000 → x0.va.length ≤ 300000 → b = false → s = rowR x0 ++ t → b' = false ∧ x = x0 ∧ s' = t)) := by
  refine Cll.code rfl rfl ?_
  refine WC.env [(0, _), (1, _)] rfl ?_
  refine WC.seq (WC.draw M [] rfl ?_)
  intro rb1 h2 M3
  refine D rfl rfl (D rfl rfl (D rfl rfl (D rfl rfl (D rfl rfl (D rfl rfl (D rfl rfl ?_))))))
  refine WS.call rfl rfl rfl (r_text_ran (s := s) (b := b) (k := 0) ((M3.focus 1 rfl).focus 1 rfl) rfl (by omega) rfl) ?_
  rintro _ h4 ⟨s4_, b4_, m4_, rfl, M5, R4_⟩
  have R4_l := R4_.1
  have R4_t := R4_.2.1
  replace M5 : Mem _ _ ([(r, _)] :: [(p, _)] :: L) _ := M5
  refine WS.nil [(0, _), (1, _)] rfl ?_
  refine WC.seq (WC.draw M5.bare [] rfl ?_)
  intro rb6 h7 M8
  refine D rfl rfl (D rfl rfl (D rfl rfl (D rfl rfl (D rfl rfl (D rfl rfl (D rfl rfl ?_))))))
  refine WS.call rfl rfl rfl (r_text_ran (s := s4_) (b := b4_) (k := 1) ((M8.focus 1 rfl).focus 1 rfl) rfl (by omega) rfl) ?_
  rintro _ h9 ⟨s9_, b9_, m9_, rfl, M10, R9_⟩
  have R9_l := R9_.1
  have R9_t := R9_.2.1
  replace M10 : Mem _ _ ([(r, _)] :: [(p, _)] :: L) _ := M10
  refine WS.nil [(0, _), (1, _)] rfl ?_
  refine WC.draw M10.bare [] rfl ?_
  intro rb11 h12 M13
  refine D rfl rfl (D rfl rfl (D rfl rfl (D rfl rfl (D rfl rfl (D rfl rfl (D rfl rfl ?_))))))
  refine WS.call rfl rfl rfl (r_number_ran (s := s9_) (b := b9_) (k := 2) (old := 0) ((M13.focus 1 rfl).focus 1 rfl) rfl (by omega)) ?_
  rintro _ h14 ⟨s14_, b14_, m14_, rfl, M15, R14_⟩
  have R14_l := R14_.1
  replace M15 : Mem _ _ ([(r, _)] :: [(p, _)] :: L) _ := M15
  refine WS.nil [] rfl ?_
  refine ⟨[], res_nil, ?_⟩
  refine ⟨(⟨m4_, m9_, m14_⟩ : Rrow), _, _, rfl, (M15.bare), by omega, ⟨by dsimp only; omega, by dsimp only; omega⟩, fun q => ?_, fun x0 t y1 y2 y3 y4 => ?_⟩
  · obtain ⟨g1, g2⟩ := R14_.2.1 q
    obtain ⟨g3, g4⟩ := R9_.2.2.1 g1
    obtain ⟨g5, g6⟩ := R4_.2.2.1 g3
    exact ⟨g5, by rw [g6, g4, g2]; simp [rowR]⟩
  · obtain ⟨z1, z2, z3⟩ := R4_.2.2.2 x0.ky (sb x0.va ++ (vb x0.vn.toNat ++ t)) (by omega) y3 (by rw [y4]; simp [rowR])
    obtain ⟨z4, z5, z6⟩ := R9_.2.2.2 x0.va _ (by omega) z1 z3
    obtain ⟨z7, z8, z9⟩ := R14_.2.2 x0.vn.toNat _ (UInt64.toNat_lt _) z4 z6
    exact ⟨z7, by rw [z2, z5, u64_inj z8], z9⟩
theorem walkResR_ran {r p : Nat} {s : List UInt8} {b : Bool} (M : Mem base h ([(r, ⟨[.string (bs s), .bool b], 0, false⟩)] :: [(p, ⟨[.int .u8 0, .int .u64 0, .string (bs []), .slice none 0 0], 0, false⟩)] :: L) []) (hl : s.length ≤ 300000) :
    Cll tab0 51 [.iface 100 (.pointer (some ⟨r, 0, none⟩)), .pointer (some ⟨p, 0, none⟩)] h (fun v h2 => ∃ cd n va N s' b', v = .int .u64 ((UInt64.toNat N : Nat) : Int) ∧ Mem base h2 ([(r, ⟨[.string (bs s'), .bool b'], 0, false⟩)] :: [(p, ⟨[.int .u8 ((UInt8.toNat cd : Nat) : Int), .int .u64 ((UInt64.toNat n : Nat) : Int), .string (bs va), .slice none 0 0], 0, false⟩)] :: L) [] ∧ s'.length ≤ s.length ∧ va.length ≤ 300000 ∧ (b' = false → b = false ∧ s = ((([cd] ++ vb n.toNat) ++ sb va) ++ vb N.toNat) ++ s') ∧ (∀ cd0 n0 va0 N0 t, va0.length ≤ 300000 → b = false → s = ((([cd0] ++ vb (UInt64.toNat n0)) ++ sb va0) ++ vb (UInt64.toNat N0)) ++ t → b' = false ∧ cd = cd0 ∧ n = n0 ∧ va = va0 ∧ N = N0 ∧ s' = t)) := by
  refine Cll.code rfl rfl ?_
  refine WC.env [(0, _), (1, _)] rfl ?_
  refine WC.seq (WC.run (D rfl rfl (WS.nil [(0, _), (1, _)] rfl ?_)))
  refine WC.seq (WC.run (D rfl rfl (D rfl rfl (D rfl rfl (D rfl (op_ld (M.at 1 rfl) rfl rfl) (D rfl rfl (WS.opV (.int .u64 0) rfl rfl rfl ?_)))))))
  refine WS.new M rfl ?_
  intro p1 h2 M3
  refine WS.st1 (M3.focus 0 rfl) [_] [_] rfl rfl rfl rfl rfl (C rfl) (C rfl) rfl rfl ?_
  intro h4 M5
  replace M5 : Mem _ _ ([(p1, _)] :: [(r, _)] :: [(p, _)] :: L) _ := M5
  refine WS.nil [(0, _), (1, _), (5, _)] rfl ?_
  refine WC.seq (WC.draw M5 [] rfl ?_)
  intro rb6 h7 M8
  refine D rfl rfl (D rfl rfl (D rfl rfl (D rfl rfl (D rfl rfl (D rfl rfl (D rfl rfl ?_))))))
  refine WS.call rfl rfl rfl (r_byte_ran (s := s) (b := b) (k := 0) (old := 0) ((M8.focus 2 rfl).focus 2 rfl) rfl (by omega)) ?_
  rintro _ h9 ⟨s9_, b9_, m9_, rfl, M10, R9_⟩
  have R9_l := R9_.1
  replace M10 : Mem _ _ ([(r, _)] :: [(p, _)] :: [(p1, _)] :: L) _ := M10
  refine WS.nil [(0, _), (1, _), (5, _)] rfl ?_
  refine WC.seq (WC.draw M10.bare [] rfl ?_)
  intro rb11 h12 M13
  refine D rfl rfl (D rfl rfl (D rfl rfl (D rfl rfl (D rfl rfl (D rfl rfl (D rfl rfl ?_))))))
  refine WS.call rfl rfl rfl (r_number_ran (s := s9_) (b := b9_) (k := 1) (old := 0) ((M13.focus 1 rfl).focus 1 rfl) rfl (by omega)) ?_
  rintro _ h14 ⟨s14_, b14_, m14_, rfl, M15, R14_⟩
  have R14_l := R14_.1
  replace M15 : Mem _ _ ([(r, _)] :: [(p, _)] :: [(p1, _)] :: L) _ := M15
  refine WS.nil [(0, _), (1, _), (5, _)] rfl ?_
  refine WC.seq (WC.draw M15.bare [] rfl ?_)
  intro rb16 h17 M18
  refine D rfl rfl (D rfl rfl (D rfl rfl (D rfl rfl (D rfl rfl (D rfl rfl (D rfl rfl ?_))))))
  refine WS.call rfl rfl rfl (r_text_ran (s := s14_) (b := b14_) (k := 2) ((M18.focus 1 rfl).focus 1 rfl) rfl (by omega) rfl) ?_
  rintro _ h19 ⟨s19_, b19_, m19_, rfl, M20, R19_⟩
  have R19_l := R19_.1
  have R19_t := R19_.2.1
  replace M20 : Mem _ _ ([(r, _)] :: [(p, _)] :: [(p1, _)] :: L) _ := M20
  refine WS.nil [(0, _), (5, _)] rfl ?_
  refine WC.seq (WC.run (D rfl rfl ?_))
  refine WS.call rfl rfl rfl (r_number_ran (s := s19_) (b := b19_) (k := 0) (old := 0) ((M20.bare.focus 2 rfl).focus 1 rfl) rfl (by omega)) ?_
  rintro _ h21 ⟨s21_, b21_, m21_, rfl, M22, R21_⟩
  have R21_l := R21_.1
  replace M22 : Mem _ _ ([(r, _)] :: [(p1, _)] :: [(p, _)] :: L) _ := M22
  refine WS.nil [(5, _)] rfl ?_
  refine WC.seq (WC.run (D rfl (op_ld (M22.at 1 rfl) rfl rfl) (D rfl rfl (WS.nil [(4, _)] rfl ?_))))
  refine WC.ret (⟨[_], (res_tmp rfl res_nil), ?_⟩)
  refine ⟨_, _, _, _, _, _, rfl, (M22.focus 1 rfl).drop, by omega, by omega, fun q => ?_, fun cd0 n0 va0 N0 t y1 y2 y3 => ?_⟩
  · obtain ⟨g1, g2⟩ := R21_.2.1 q
    obtain ⟨g3, g4⟩ := R19_.2.2.1 g1
    obtain ⟨g5, g6⟩ := R14_.2.1 g3
    obtain ⟨g7, g8⟩ := R9_.2.1 g5
    exact ⟨g7, by rw [g8, g6, g4, g2]; simp⟩
  · obtain ⟨z1, z2, z3⟩ := R9_.2.2 cd0 (vb n0.toNat ++ (sb va0 ++ (vb N0.toNat ++ t))) y2 (by rw [y3]; simp)
    obtain ⟨z4, z5, z6⟩ := R14_.2.2 n0.toNat _ (UInt64.toNat_lt _) z1 z3
    obtain ⟨z7, z8, z9⟩ := R19_.2.2.2 va0 _ (by omega) z4 z6
    obtain ⟨x1, x2, x3⟩ := R21_.2.2 N0.toNat _ (UInt64.toNat_lt _) z7 z9
    exact ⟨x1, z2, u64_inj z5, z8, u64_inj x2, x3⟩
theorem rows_min (l : List Rrow) : 3 * l.length ≤ (l.flatMap rowR).length := by
  induction l with
  | nil => simp
  | cons x l ih =>
    have h1 := List.length_pos_iff.2 (vb_ne x.vn.toNat)
    have h2 := List.length_pos_iff.2 (vb_ne x.ky.length)
    have h3 := List.length_pos_iff.2 (vb_ne x.va.length)
    rw [List.flatMap_cons, List.length_append, List.length_cons]
    simp only [rowR, sb, List.length_append]; omega
def zeroR : Res := ⟨0, 0, [], []⟩
def RdR (s : List UInt8) (r : Res) (ok : Bool) : Prop := (ok = true → encR r = s) ∧ (ok = false → r = zeroR ∧ ∀ r0, FitRes r0 → encR r0 ≠ s)
theorem rdR_no {s : List UInt8} (h : ∀ r0, FitRes r0 → encR r0 ≠ s) : RdR s zeroR false := ⟨fun q => (nomatch q), fun _ => ⟨rfl, h⟩⟩
theorem drop_flatR {qs : List Rrow} {i : Nat} {y : Rrow} (h : qs[i]? = some y) : (qs.drop i).flatMap rowR = rowR y ++ (qs.drop (i + 1)).flatMap rowR := by
  have hi := (List.getElem?_eq_some_iff.1 h).1
  rw [List.drop_eq_getElem_cons hi, List.flatMap_cons]
  rw [List.getElem?_eq_getElem hi] at h; cases h; rfl
theorem fitR0 : FitRes zeroR := by unfold FitRes zeroR FitR; simp
theorem FitR_app {l : List Rrow} {x : Rrow} (h : FitR l) (hx : x.ky.length ≤ 300000 ∧ x.va.length ≤ 300000) : FitR (l ++ [x]) := by
  intro p hp
  rcases List.mem_append.1 hp with q | q
  · exact h p q
  · rw [List.mem_singleton] at q; subst q; exact hx
set_option maxRecDepth 8000 in
theorem ReadR_ran (W : Mem h h [] []) {s : List UInt8} (hl : s.length ≤ 299000) : Cll tab0 30 [.string (bs s)] h (fun v h2 => ∃ r V S ok, KRrow.Own V (Res.rs r) S ∧ v = .tuple #[r.val V, .bool ok] ∧ FitRes r ∧ (ok = true → encR r = s) ∧ (ok = false → r = zeroR) ∧ RdR s r ok ∧ Mem h h2 [S] []) := by
  refine Cll.code rfl rfl ?_
  refine WC.env [(0, _)] rfl ?_
  refine WC.seq (WC.run (WS.new W rfl ?_))
  intro p1 h2 M3
  refine D rfl rfl (WS.nil [(0, _), (2, _)] rfl ?_)
  refine WC.seq (WC.run (WS.new M3 rfl ?_))
  intro p4 h5 M6
  refine WS.nil [(0, _), (2, _), (4, _)] rfl ?_
  refine WC.seq (WC.run (D rfl rfl (WS.opV (.agg #[(.string (bs s)), (.bool false)]) rfl rfl rfl ?_)))
  refine WS.box M6 [_, _] rfl rfl rfl rfl ?_
  intro p7 h8 M9
  refine D rfl rfl (WS.nil [(2, _), (4, _), (5, _)] rfl ?_)
  refine WC.seq (WC.seq (WC.run (D rfl rfl (D rfl rfl ?_))))
  refine WS.call rfl rfl rfl (walkResR_ran (s := s) (b := false) ((M9.focus 1 rfl).focus 1 rfl) (by omega)) ?_
  rintro _ h10 ⟨cd, n_, va, N_, sx, bx, rfl, M11, hx1, hx2, hx3, hx4⟩
  replace M11 : Mem _ _ ([(p7, _)] :: [(p4, _)] :: [(p1, _)] :: []) _ := M11
  refine D rfl rfl (WS.nil [(2, _), (4, _), (5, _), (6, _)] rfl ?_)
  refine WC.block ?_
  obtain ⟨L12, eL14, M13⟩ := Mem.name3 ((((M11.bare.focus 1 rfl).focus 1 rfl)).nils)
  refine WC.loop (σ := List UInt8 × Bool × List Rrow × Value × Seg × Nat) (fun ((s_, b_, l, V_, S_, n)) => [(2, (.pointer (some ⟨p1, 0, none⟩))), (4, (.pointer (some ⟨p4, 0, none⟩))), (5, (.pointer (some ⟨p7, 0, none⟩))), (6, (.int .u64 ((n : Nat) : Int)))]) (fun ((s_, b_, l, V_, S_, n)) hh => Mem h hh (S_ :: [(p7, ⟨[(.string (bs s_)), (.bool b_)], 0, false⟩)] :: [(p4, ⟨[(.int .u8 (((cd).toNat : Nat) : Int)), (.int .u64 (((n_).toNat : Nat) : Int)), (.string (bs va)), V_], 0, false⟩)] :: L12) [] ∧ KRrow.Own V_ l S_ ∧ n < 18446744073709551616 ∧ s_.length ≤ s.length ∧ FitR l ∧ l.length ≤ 299001 ∧ (b_ = false → s = (((([cd] ++ vb n_.toNat) ++ sb va) ++ vb N_.toNat) ++ l.flatMap rowR) ++ s_ ∧ l.length + n = N_.toNat) ∧ (∀ r0 : Res, FitRes r0 → s = encR r0 → b_ = false ∧ cd = r0.cd ∧ n_ = r0.n ∧ va = r0.va ∧ n + l.length = r0.rs.length ∧ l = r0.rs.take l.length ∧ s_ = (r0.rs.drop l.length).flatMap rowR)) (fun ((s_, b_, l, V_, S_, n)) => n) (sx, bx, [], .slice none 0 0, [], N_.toNat) rfl ⟨(by exact M13), ?_⟩ ?_
  · exact ⟨.nil, UInt64.toNat_lt _, by omega, (by intro p hp; cases hp), by simp, (fun q => ⟨by rw [(hx3 q).2]; simp, by simp⟩), fun r0 hf he => by have hq := hf.2.1; obtain ⟨x1, x2, x3, x4, x5, x6⟩ := hx4 r0.cd r0.n r0.va (UInt64.ofNat r0.rs.length) (r0.rs.flatMap rowR) hf.1 rfl (by rw [he]; unfold encR headR; rw [n64 (by omega)]); exact ⟨x1, x2, x3, x4, by rw [x5, n64 (by omega)]; simp, by simp, by simpa using x6⟩⟩
  ·rintro ⟨s_, b_, l, V_, S_, n⟩ h15 ⟨M16, ⟨hO, hn64, hsl, hF, hll, hI, hC⟩⟩
   replace eL14 := eL14.symm; subst eL14
   refine WC.env [(2, _), (4, _), (5, _), (6, _)] rfl ?_
   obtain ⟨P_, rfl⟩ := hO.shape
   refine WC.seq (WC.seq (WC.run (D rfl rfl ?_)))
   refine WS.gtrN (a := n) (b := 0) rfl rfl rfl (fun e15 => ?_) (fun e15 => ?_)
   ·
    refine D rfl rfl (D rfl rfl (D rfl rfl (D rfl rfl (D rfl (op_ld (M16.at 1 rfl) rfl rfl) ?_))))
    cases b_
    ·
     refine WS.opV (.bool true) rfl rfl rfl (D rfl rfl (WS.nil [(2, _), (4, _), (5, _), (6, _), (22, _)] rfl ?_))
     refine WC.condT rfl (WC.skip (WC.seq (WC.block (WC.seq (WC.run (WS.new M16 rfl ?_))))))
     intro p17 h18 M19
     refine WS.nil [(2, _), (4, _), (5, _), (6, _), (7, _)] rfl ?_
     refine WC.seq (WC.run (D rfl rfl (D rfl rfl ?_)))
     refine WS.call rfl rfl rfl (walkRowR_ran (s := s_) (b := false) ((M19.focus 0 rfl).focus 2 rfl) (by omega)) ?_
     rintro _ h20 ⟨xr, sx, bx, rfl, M21, hx1, hx2, hx3, hx4⟩
     replace M21 : Mem _ _ ([(p7, _)] :: [(p17, _)] :: S_ :: [(p4, _)] :: [(p1, _)] :: []) _ := M21
     refine WS.nil [(2, _), (4, _), (5, _), (6, _), (7, _)] rfl ?_
     refine WC.run (D rfl rfl (D rfl (op_ld (M21.at 3 rfl) rfl rfl) (D rfl (op_lds [_, _, _] (M21.at 1 rfl) rfl (C rfl) rfl) ?_)))
     refine WS.bsl M21 [_, _, _] rfl rfl rfl rfl ?_
     intro p22 h23 M24
     refine WS.app (l := l) (m := [xr]) (hO) (M24.focus 3 rfl) (Row.Src.one (K := KRrow) (m := [xr]) (M24.at 0 rfl)) rfl (by simp only [List.length_cons, List.length_nil]; omega) (by simp only [List.length_cons, List.length_nil]; omega) rfl rfl rfl ?_
     intro V25 S26 h27 O28 M29
     obtain ⟨P30, rfl⟩ := Row.Own.shape O28
     refine D rfl rfl ?_
     refine WS.st1 (M29.focus 4 rfl) [_] [_, _, _, _] rfl rfl rfl rfl rfl (C rfl) (C rfl) rfl rfl ?_
     intro h31 M32
     replace M32 : Mem _ _ ([(p4, _)] :: S26 :: [(p22, _)] :: [(p7, _)] :: [(p17, _)] :: [(p1, _)] :: []) _ := M32
     refine WS.nil [(2, _), (4, _), (5, _), (6, _)] rfl ?_
     refine WC.run (D rfl rfl (WS.opV (.int .u64 (((n - 1) : Nat) : Int)) rfl rfl (sub_u64 (a := n) (b := 1) (by have := hn64; omega)) (D rfl rfl (WS.nil [(2, _), (4, _), (5, _), (6, _)] rfl ?_))))
     refine ⟨(sx, bx, l ++ [xr], (.slice P30 ((l ++ [xr])).length (2 * ((l ++ [xr])).length)), S26, n - 1), rfl, ⟨(((((M32.bare.focus 5 rfl).focus 1 rfl).focus 4 rfl).focus 3 rfl).take 4), ?_⟩, ?_⟩
     · exact ⟨O28, by omega, by omega, FitR_app hF hx2, by have e_ := congrArg List.length (hI rfl).1; have := rows_min l; simp only [List.length_append] at e_; simp only [List.length_append, List.length_cons, List.length_nil]; omega, (fun q => by obtain ⟨g1, g2⟩ := hx3 q; obtain ⟨g3, g4⟩ := hI rfl; exact ⟨by rw [g3, g2]; simp, by simp; omega⟩), fun r0 hf he => by obtain ⟨g1, g2, g3, g4, g5, g6, g7⟩ := hC r0 hf he; obtain ⟨y, hy⟩ : ∃ y, r0.rs[l.length]? = some y := ⟨_, List.getElem?_eq_getElem (by omega)⟩; have hyf := hf.2.2 _ (mem_get hy); obtain ⟨z1, z2, z3⟩ := hx4 y ((r0.rs.drop (l.length + 1)).flatMap rowR) hyf.1 hyf.2 rfl (by rw [g7, drop_flatR hy]); exact ⟨z1, g2, g3, g4, by simp; omega, by rw [List.length_append, List.length_singleton, List.take_add_one, hy, ← g6, z2]; rfl, by rw [List.length_append, List.length_singleton]; exact z3⟩⟩
     · simp only []; omega
    ·
     refine WS.opV (.bool false) rfl rfl rfl (D rfl rfl (WS.nil [(2, _), (4, _), (5, _), (6, _), (22, _)] rfl ?_))
     refine WC.condF rfl (WC.exit ?_)
     refine WC.seq (WC.seq (WC.run (D rfl rfl ?_)))
     refine WS.call rfl rfl rfl (well_ran M16.here (s := s_) (b := true) (M16.at 1 rfl)) ?_
     rintro _ h33 ⟨rfl, N34⟩
     have M35 := M16.trans N34
     cases hb2 : (decide (true = false ∧ s_ = []))
     ·
      refine WS.opV (.bool true) rfl rfl rfl (WS.nil [(2, _), (4, _), (36, _)] rfl ?_)
      refine WC.condT rfl (WC.seq (WC.run (WS.opV (.agg #[(.int .u8 (0 : Int)), (.int .u64 (0 : Int)), (.string (bs ([]))), (.slice none 0 0)]) rfl rfl rfl ?_)))
      refine WS.st1 (M35.focus 3 rfl) [_, _, _, _] [_, _, _, _] rfl rfl rfl rfl rfl (C rfl) (C rfl) rfl rfl ?_
      intro h36 M37
      replace M37 : Mem _ _ ([(p1, _)] :: S_ :: [(p7, _)] :: [(p4, _)] :: []) _ := M37
      refine D rfl rfl (WS.nil [(2, _), (3, _)] rfl ?_)
      refine WC.ret (⟨[_, _], (res_cellN [_, _, _, _] rfl (M37.at 0 rfl) (C rfl) rfl (res_tmp rfl res_nil)), ?_⟩)
      have hno : ∀ r0, FitRes r0 → encR r0 ≠ s := by
        intro r0 hf he
        obtain ⟨g1, g2, g3, g4, g5, g6, g7⟩ := hC r0 hf he.symm
        first
        | (cases g1; done)
        | (have g8 : s_ = [] := by (rw [g7, List.drop_eq_nil_of_le (by omega)]; rfl)
           exact absurd (And.intro g1 g8) (of_decide_eq_false (by assumption)))
      exact ⟨zeroR, .slice none 0 0, [], false, .nil, rfl, fitR0, (fun q => nomatch q), (fun _ => rfl), rdR_no hno, (M37.bare.take 0).nils⟩
     ·
      refine WS.opV (.bool false) rfl rfl rfl (WS.nil [(2, _), (4, _), (36, _)] rfl ?_)
      refine WC.condF rfl (WC.skip (WC.seq (WC.run (D rfl (op_lds [_, _, _, _] (M35.at 2 rfl) rfl (C rfl) rfl) ?_))))
      refine WS.st1 (M35.focus 3 rfl) [_, _, _, _] [_, _, _, _] rfl rfl rfl rfl rfl (C rfl) (C rfl) rfl rfl ?_
      intro h38 M39
      replace M39 : Mem _ _ ([(p1, _)] :: S_ :: [(p7, _)] :: [(p4, _)] :: []) _ := M39
      refine D rfl rfl (WS.nil [(2, _), (3, _)] rfl ?_)
      refine WC.ret (⟨[_, _], (res_cellN [_, _, _, _] rfl (M39.at 0 rfl) (C rfl) rfl (res_tmp rfl res_nil)), ?_⟩)
      obtain ⟨w1, w2⟩ := of_decide_eq_true (p := true = false ∧ s_ = []) (by assumption)
      cases w1
   ·
    refine D rfl rfl (WS.off rfl (WS.off rfl (WS.off rfl (WS.off rfl (WS.off rfl (D rfl rfl (WS.nil [(2, _), (4, _), (5, _), (6, _), (22, _)] rfl ?_)))))))
    refine WC.condF rfl (WC.exit ?_)
    refine WC.seq (WC.seq (WC.run (D rfl rfl ?_)))
    refine WS.call rfl rfl rfl (well_ran M16.here (s := s_) (b := b_) (M16.at 1 rfl)) ?_
    rintro _ h40 ⟨rfl, N41⟩
    have M42 := M16.trans N41
    cases hb3 : (decide (b_ = false ∧ s_ = []))
    ·
     refine WS.opV (.bool true) rfl rfl rfl (WS.nil [(2, _), (4, _), (36, _)] rfl ?_)
     refine WC.condT rfl (WC.seq (WC.run (WS.opV (.agg #[(.int .u8 (0 : Int)), (.int .u64 (0 : Int)), (.string (bs ([]))), (.slice none 0 0)]) rfl rfl rfl ?_)))
     refine WS.st1 (M42.focus 3 rfl) [_, _, _, _] [_, _, _, _] rfl rfl rfl rfl rfl (C rfl) (C rfl) rfl rfl ?_
     intro h43 M44
     replace M44 : Mem _ _ ([(p1, _)] :: S_ :: [(p7, _)] :: [(p4, _)] :: []) _ := M44
     refine D rfl rfl (WS.nil [(2, _), (3, _)] rfl ?_)
     refine WC.ret (⟨[_, _], (res_cellN [_, _, _, _] rfl (M44.at 0 rfl) (C rfl) rfl (res_tmp rfl res_nil)), ?_⟩)
     have hno : ∀ r0, FitRes r0 → encR r0 ≠ s := by
       intro r0 hf he
       obtain ⟨g1, g2, g3, g4, g5, g6, g7⟩ := hC r0 hf he.symm
       first
       | (cases g1; done)
       | (have g8 : s_ = [] := by (rw [g7, List.drop_eq_nil_of_le (by omega)]; rfl)
          exact absurd (And.intro g1 g8) (of_decide_eq_false (by assumption)))
     exact ⟨zeroR, .slice none 0 0, [], false, .nil, rfl, fitR0, (fun q => nomatch q), (fun _ => rfl), rdR_no hno, (M44.bare.take 0).nils⟩
    ·
     refine WS.opV (.bool false) rfl rfl rfl (WS.nil [(2, _), (4, _), (36, _)] rfl ?_)
     refine WC.condF rfl (WC.skip (WC.seq (WC.run (D rfl (op_lds [_, _, _, _] (M42.at 2 rfl) rfl (C rfl) rfl) ?_))))
     refine WS.st1 (M42.focus 3 rfl) [_, _, _, _] [_, _, _, _] rfl rfl rfl rfl rfl (C rfl) (C rfl) rfl rfl ?_
     intro h45 M46
     replace M46 : Mem _ _ ([(p1, _)] :: S_ :: [(p7, _)] :: [(p4, _)] :: []) _ := M46
     refine D rfl rfl (WS.nil [(2, _), (3, _)] rfl ?_)
     refine WC.ret (⟨[_, _], (res_cellN [_, _, _, _] rfl (M46.at 0 rfl) (C rfl) rfl (res_tmp rfl res_nil)), ?_⟩)
     obtain ⟨w1, w2⟩ := of_decide_eq_true (p := b_ = false ∧ s_ = []) (by assumption)
     obtain ⟨g3, g4⟩ := hI w1
     exact ⟨⟨cd, n_, va, l⟩, _, _, true, hO, rfl, ⟨hx2, by dsimp only; omega, hF⟩, (fun _ => by rw [g3, w2]; unfold encR headR; dsimp only; rw [show l.length = N_.toNat by omega]; simp), (fun q => nomatch q), ⟨fun _ => (by rw [g3, w2]; unfold encR headR; dsimp only; rw [show l.length = N_.toNat by omega]; simp), fun q => nomatch q⟩, ((M46.bare.focus 1 rfl).take 1)⟩
end Go.Proofs.Ytomaijljeacpjaa.Wt
namespace Go.Proofs.Ytomaijljeacpjaa.Wt
open Go Go.Proofs.Ytomaijljeacpjaa.Am Go.Proofs.Ytomaijljeacpjaa.IrAll
open Go.Proofs.Ytomaijljeacpjaa.Am.WS renaming op → C
open Go.Proofs.Ytomaijljeacpjaa.Am.WS renaming off → D
set_option linter.unusedVariables false
set_option linter.unusedSimpArgs false
variable {h base : H} {L : List Seg} {R : List Nat}
def SameRH (a b : Res) : Prop := a.cd.toNat = b.cd.toNat ∧ a.n.toNat = b.n.toNat ∧ a.va = b.va ∧ a.rs.length = b.rs.length
theorem sameR_yes {a b : Res} (q : SameRH a b) (hp : a.rs = b.rs) : a = b := by
  obtain ⟨q1, q2, q3, _⟩ := q
  obtain ⟨⟩ := a; obtain ⟨⟩ := b
  simp only at *
  rw [u8_inj q1, u64_inj q2, q3, hp]
theorem sameR_no {a b : Res} (q : ¬ SameRH a b) : a ≠ b := fun e => q (by subst e; exact ⟨rfl, rfl, rfl, rfl⟩)
theorem SameR_ran (W : Mem h h [] []) {a b : Res} {V V2 : Value} (A : KRrow.Sl h V a.rs) (B : KRrow.Sl h V2 b.rs) (hl : a.rs.length ≤ 1000000) : Cll tab0 14 [a.val V, b.val V2] h (fun v h2 => v = .bool (decide (a = b)) ∧ Mem h h2 [] []) := by
  obtain ⟨P, n, rfl⟩ := A.shape
  obtain ⟨P2, n2, rfl⟩ := B.shape
  refine Cll.code rfl rfl ?_
  refine WC.env [(0, _), (1, _)] rfl ?_
  refine WC.seq (WC.run (WS.box W [_, _, _, _] rfl rfl rfl rfl ?_))
  intro p1 h2 M3
  refine WS.box M3 [_, _, _, _] rfl rfl rfl rfl ?_
  intro p4 h5 M6
  refine C rfl rfl (WS.nil [(2, _), (3, _)] rfl ?_)
  refine WC.seq (WC.seq ?_)
  obtain ⟨L7, eL9, M8⟩ := Mem.name M6.bare
  refine WC.joinB (base := h) (fun b => [(2, (.pointer (some ⟨p1, 0, none⟩))), (3, (.pointer (some ⟨p4, 0, none⟩))), (33, .bool b)]) L7 (¬ SameRH a b) (SameRH a b) ?_ ?_ ?_
  ·replace eL9 := eL9.symm; subst eL9
   refine C rfl rfl (C rfl (op_ld (M8.at 1 rfl) rfl rfl) (C rfl rfl (C rfl (op_ld (M8.at 0 rfl) rfl rfl) ?_)))
   refine WS.neqN (a := (a.cd).toNat) (b := (b.cd).toNat) rfl rfl rfl (fun e10 => ?_) (fun e10 => ?_)
   ·
    refine C rfl rfl (D rfl (D rfl (D rfl (D rfl (D rfl (C rfl rfl (C rfl rfl (D rfl (D rfl ?_)))))))))
    refine D rfl (D rfl (D rfl (C rfl rfl (C rfl rfl (D rfl (D rfl (D rfl (D rfl (D rfl ?_)))))))))
    refine D rfl (D rfl (C rfl rfl ?_))
    refine WS.nil' ⟨true, rfl, (((M8.bare.focus 1 rfl).focus 1 rfl).take 2), fun _ => ?_, fun hh => ?_⟩
    · rintro ⟨q0, q1, q2, q3⟩; first | exact e10 q0 | exact e16 q1 | exact e23 q2 | exact e32 q3
    · cases hh
   ·
    refine C rfl rfl (C rfl rfl (C rfl (op_ld (M8.at 1 rfl) rfl rfl) (C rfl rfl (C rfl (op_ld (M8.at 0 rfl) rfl rfl) ?_))))
    refine WS.neqN (a := (a.n).toNat) (b := (b.n).toNat) rfl rfl rfl (fun e16 => ?_) (fun e16 => ?_)
    ·
     refine C rfl rfl (C rfl rfl (D rfl (D rfl (D rfl (D rfl (D rfl (C rfl rfl (C rfl rfl (D rfl ?_)))))))))
     refine D rfl (D rfl (D rfl (D rfl (D rfl (D rfl (C rfl rfl ?_))))))
     refine WS.nil' ⟨true, rfl, (((M8.bare.focus 1 rfl).focus 1 rfl).take 2), fun _ => ?_, fun hh => ?_⟩
     · rintro ⟨q0, q1, q2, q3⟩; first | exact e10 q0 | exact e16 q1 | exact e23 q2 | exact e32 q3
     · cases hh
    ·
     refine C rfl rfl (C rfl rfl (C rfl rfl (C rfl (op_ld (M8.at 1 rfl) rfl rfl) (C rfl rfl (C rfl (op_ld (M8.at 0 rfl) rfl rfl) ?_)))))
     refine WS.sneq (l := a.va) (m := b.va) rfl rfl rfl (fun e23 => ?_) (fun e23 => ?_)
     ·
      refine C rfl rfl (C rfl rfl (D rfl (D rfl (D rfl (D rfl (D rfl (D rfl (D rfl (C rfl rfl ?_)))))))))
      refine WS.nil' ⟨true, rfl, (((M8.bare.focus 1 rfl).focus 1 rfl).take 2), fun _ => ?_, fun hh => ?_⟩
      · rintro ⟨q0, q1, q2, q3⟩; first | exact e10 q0 | exact e16 q1 | exact e23 q2 | exact e32 q3
      · cases hh
     ·
      refine C rfl rfl (C rfl rfl (C rfl rfl (C rfl (op_ld (M8.at 1 rfl) rfl rfl) (C rfl (op_lenVS A rfl) (C rfl rfl (C rfl (op_ld (M8.at 0 rfl) rfl rfl) (C rfl (op_lenVS B rfl) ?_)))))))
      refine WS.neqN (a := (a.rs).length) (b := (b.rs).length) rfl rfl rfl (fun e32 => ?_) (fun e32 => ?_)
      ·
       refine C rfl rfl ?_
       refine WS.nil' ⟨true, rfl, (((M8.bare.focus 1 rfl).focus 1 rfl).take 2), fun _ => ?_, fun hh => ?_⟩
       · rintro ⟨q0, q1, q2, q3⟩; first | exact e10 q0 | exact e16 q1 | exact e23 q2 | exact e32 q3
       · cases hh
      ·
       refine C rfl rfl ?_
       refine WS.nil' ⟨false, rfl, (((M8.bare.focus 1 rfl).focus 1 rfl).take 2), fun hh => ?_, fun _ => ?_⟩
       · cases hh
       · exact ⟨e10, e16, e23, e32⟩
  ·intro h10 M11 hp33
   replace eL9 := eL9.symm; subst eL9
   refine WC.condT rfl (WC.seq (WC.run (C rfl rfl (WS.nil [(4, _)] rfl ?_))))
   refine WC.ret (⟨[_], (res_tmp rfl res_nil), ?_⟩)
   exact ⟨by rw [decide_eq_false (sameR_no hp33)]; rfl, M11.bare.take 0⟩
  ·intro h12 M13 hp33
   replace eL9 := eL9.symm; subst eL9
   refine WC.condF rfl (WC.skip (WC.seq (WC.seq (WC.run (C rfl rfl (WS.nil [(2, _), (3, _), (5, _)] rfl ?_))))))
   refine WC.block ?_
   obtain ⟨L14, eL16, M15⟩ := Mem.name M13.bare
   refine WC.loop (σ := Nat) (fun (i) => [(2, (.pointer (some ⟨p1, 0, none⟩))), (3, (.pointer (some ⟨p4, 0, none⟩))), (5, (.int .i64 ((i : Nat) : Int)))]) (fun (i) hh => Mem h hh (L14) [] ∧ a.rs.take i = b.rs.take i ∧ i ≤ a.rs.length) (fun (i) => a.rs.length - i) (0) rfl ⟨M15, ?_⟩ ?_
   · exact ⟨rfl, by omega⟩
   ·rintro i h17 ⟨M18, ⟨hO, hi1⟩⟩
    replace eL16 := eL16.symm; subst eL16
    refine WC.env [(2, _), (3, _), (5, _)] rfl ?_
    refine WC.seq (WC.seq (WC.run (C rfl rfl (C rfl rfl (C rfl (op_ld (M18.at 1 rfl) rfl rfl) (C rfl (op_lenVS A rfl) ?_))))))
    refine WS.lssN (a := i) (b := (a.rs).length) rfl rfl rfl (fun e38 => ?_) (fun e38 => ?_)
    ·
     refine WS.nil [(2, _), (3, _), (5, _), (38, _)] rfl ?_
     refine WC.condT rfl (WC.skip (WC.seq (WC.block (WC.seq (WC.draw M18 [] rfl ?_)))))
     intro rb19 h20 M21
     refine C rfl rfl (C rfl (op_ld (M21.at 1 rfl) rfl rfl) (C rfl rfl ?_))
     obtain ⟨y44, hy44⟩ : ∃ y, (a.rs)[i]? = some y := ⟨_, List.getElem?_eq_getElem (show i < (a.rs).length by first | omega | (simp only [List.length_drop, List.length_take, List.length_append, List.length_cons, List.length_nil, List.length_singleton]; omega) | (simp only [List.length_drop, List.length_take, List.length_append, List.length_cons, List.length_nil, List.length_singleton] at *; omega))⟩
     refine WS.iaVS A i hy44 rfl rfl rfl rfl ?_
     intro b44_ o44_ ha44
     refine C rfl (op_ldAt rfl (ha44.mono M21.sub) rfl) (C rfl rfl (C rfl (op_ld (M21.at 0 rfl) rfl rfl) (C rfl rfl ?_)))
     obtain ⟨y49, hy49⟩ : ∃ y, (b.rs)[i]? = some y := ⟨_, List.getElem?_eq_getElem (show i < (b.rs).length by have := hp33.2.2.2; omega)⟩
     refine WS.iaVS B i hy49 rfl rfl rfl rfl ?_
     intro b49_ o49_ ha49
     refine C rfl (op_ldAt rfl (ha49.mono M21.sub) rfl) ?_
     refine WS.eqqDn (p := y44 = y49) rfl rfl rfl (Rrow_eqV _ _) (fun e51 => ?_) (fun e51 => ?_)
     ·
      refine WS.nil [(2, _), (3, _), (5, _), (51, _)] rfl ?_
      refine WC.condT rfl (WC.seq (WC.run (C rfl rfl (WS.nil [(4, _)] rfl ?_))))
      refine WC.ret (⟨[_], (res_tmp rfl res_nil), ?_⟩)
      exact ⟨by rw [decide_eq_false (fun q => ne_of_get hy44 hy49 e51 (congrArg Res.rs q))]; rfl, M21.bare.bare.take 0⟩
     ·
      refine WS.nil [(2, _), (3, _), (5, _), (51, _)] rfl ?_
      refine WC.condF rfl (WC.skip (WC.run (C rfl rfl (WS.opV (.int .i64 (((i + 1) : Nat) : Int)) rfl rfl (add_i64 (a := i) (b := 1) (by omega)) (C rfl rfl (WS.nil [(2, _), (3, _), (5, _)] rfl ?_))))))
      refine ⟨i + 1, rfl, ⟨(((M21.bare.bare.focus 1 rfl).focus 1 rfl).take 2), ?_⟩, ?_⟩
      · exact ⟨eq_take_step hO hy44 hy49 (by assumption), by omega⟩
      · simp only []; omega
    ·
     refine WS.nil [(2, _), (3, _), (5, _), (38, _)] rfl ?_
     refine WC.condF rfl (WC.exit ?_)
     refine WC.seq (WC.run (C rfl rfl (WS.nil [(4, _)] rfl ?_)))
     refine WC.ret (⟨[_], (res_tmp rfl res_nil), ?_⟩)
     have hln := hp33.2.2.2
     rw [List.take_of_length_le (by omega), List.take_of_length_le (by omega)] at hO
     exact ⟨by rw [decide_eq_true (sameR_yes hp33 hO)]; rfl, M18.bare.take 0⟩
end Go.Proofs.Ytomaijljeacpjaa.Wt
namespace Go.Proofs.Ytomaijljeacpjaa.Wt
open Go Go.Proofs.Ytomaijljeacpjaa.Am
set_option linter.unusedVariables false
set_option linter.unusedSimpArgs false
section
variable {α : Type} {Good : α → Prop} {enc : α → List UInt8} {z a b c : α} {s bh : List UInt8} {oa ob : Bool}
def PF (Good : α → Prop) (enc : α → List UInt8) : Prop := ∀ (a b : α) (x y : List UInt8), Good a → Good b → enc a ++ x = enc b ++ y → a = b ∧ x = y
end
theorem vb_cancel {a b : Nat} (ha : a < 18446744073709551616) (hb : b < 18446744073709551616) {x y : List UInt8} (h : vb a ++ x = vb b ++ y) : a = b ∧ x = y := by
  have g1 := getV_vb ha x
  rw [h, getV_vb hb y] at g1
  have e : a = b := by simp at g1; exact g1.1.symm
  subst e
  exact ⟨rfl, List.append_cancel_left h⟩
theorem sb_cancel {a b : List UInt8} (ha : a.length < 18446744073709551616) (hb : b.length < 18446744073709551616) {x y : List UInt8} (h : sb a ++ x = sb b ++ y) : a = b ∧ x = y := by
  have g1 := getS_sb ha x
  rw [h, getS_sb hb y] at g1
  have e : a = b := by simp at g1; exact g1.1.symm
  subst e
  exact ⟨rfl, List.append_cancel_left h⟩
theorem sb_can {a b : List UInt8} (ha : a.length ≤ 300000) (hb : b.length ≤ 300000) {x y : List UInt8} (h : sb a ++ x = sb b ++ y) : a = b ∧ x = y := sb_cancel (by omega) (by omega) h
theorem n64c {a b : UInt64} {x y : List UInt8} (h : vb a.toNat ++ x = vb b.toNat ++ y) : a = b ∧ x = y := by
  obtain ⟨h1, h2⟩ := vb_cancel a.toNat_lt b.toNat_lt h
  exact ⟨u64_inj h1, h2⟩
theorem rows_pf : ∀ {ps qs : List Rrow} {x y : List UInt8}, FitR ps → FitR qs → ps.length = qs.length → ps.flatMap rowR ++ x = qs.flatMap rowR ++ y → ps = qs ∧ x = y := by
  intro ps
  induction ps with
  | nil =>
    intro qs x y _ _ hl h
    have : qs = [] := List.eq_nil_of_length_eq_zero hl.symm
    subst this
    exact ⟨rfl, by simpa using h⟩
  | cons p ps ih =>
    intro qs x y f1 f2 hl h
    cases qs with
    | nil => simp at hl
    | cons q qs =>
      simp only [List.flatMap_cons, rowR, List.append_assoc] at h
      have fp := f1 p (by simp)
      have fq := f2 q (by simp)
      obtain ⟨h1, h⟩ := sb_can fp.1 fq.1 h
      obtain ⟨h2, h⟩ := sb_can fp.2 fq.2 h
      obtain ⟨h3, h⟩ := n64c h
      obtain ⟨e1, e2⟩ := ih (qs := qs) (x := x) (y := y) (fun z hz => f1 z (by simp [hz])) (fun z hz => f2 z (by simp [hz])) (by simpa using hl) (by simpa [rowR] using h)
      refine ⟨?_, e2⟩
      obtain ⟨⟩ := p; obtain ⟨⟩ := q
      simp only at *
      rw [h1, h2, h3, e1]
theorem encR_pf : PF FitRes encR := by
  rintro a b x y ⟨f1, f2, f3⟩ ⟨g1, g2, g3⟩ h
  simp only [encR, headR, List.append_assoc, List.cons_append, List.nil_append, List.cons.injEq] at h
  obtain ⟨h1, h⟩ := h
  obtain ⟨h2, h⟩ := n64c h
  obtain ⟨h3, h⟩ := sb_can f1 g1 h
  obtain ⟨h4, h⟩ := vb_cancel (by omega) (by omega) h
  obtain ⟨h5, h⟩ := rows_pf f3 g3 h4 h
  refine ⟨?_, h⟩
  obtain ⟨⟩ := a; obtain ⟨⟩ := b
  simp only at *
  rw [h1, h2, h3, h5]
end Go.Proofs.Ytomaijljeacpjaa.Wt
namespace Go.Proofs.Ytomaijljeacpjaa.Wt
open Go Go.Proofs.Ytomaijljeacpjaa.Am Go.Proofs.Ytomaijljeacpjaa.IrAll
set_option linter.unusedVariables false
set_option linter.unusedSimpArgs false
variable {h base : H} {L : List Seg} {R : List Nat}
theorem sb_lenT {t : List UInt8} (h : t.length ≤ 3000) : (sb t).length ≤ 3010 := by have := sb_len (t := t) (by omega); omega
theorem rows_len {ps : List Rrow} (h : ∀ p ∈ ps, p.ky.length ≤ 3000 ∧ p.va.length ≤ 3000) : (ps.flatMap rowR).length ≤ ps.length * 6030 := by
  induction ps with
  | nil => simp
  | cons p ps ih =>
    have h1 := ih fun x hx => h x (by simp [hx])
    have h2 := h p (by simp)
    have s1 := sb_lenT h2.1
    have s2 := sb_lenT h2.2
    have s3 := vb_len p.vn.toNat_lt
    simp only [List.flatMap_cons, List.length_append, List.length_cons, rowR]; omega
theorem encR_len {r : Res} (h : TightR r) : (encR r).length ≤ 250000 := by
  have s1 := sb_lenT h.1
  have s2 := vb_len r.n.toNat_lt
  have s3 := vb_len (n := r.rs.length) (by have := h.2.1; omega)
  have s4 := rows_len h.2.2
  have := h.2.1
  simp only [encR, headR, List.length_append, List.length_cons, List.length_nil]; omega
end Go.Proofs.Ytomaijljeacpjaa.Wt
namespace Go.Proofs.Ytomaijljeacpjaa.Am
open Go
set_option linter.unusedVariables false
set_option linter.unusedSimpArgs false
section
variable {base h h1 h2 h3 : H} {L L' : List Seg} {R : List Nat} {S : Seg}
variable {tab : Nat → Option FD} {Q : Ex → Env → H → Prop} {q : Env → H → Prop} {e e2 : Env}
variable {rb : Nat} {ss : List Step} {d : Option Nat} {g : Option (Nat × Bool)}
variable {α : Type} {K : Row α} {V y : Value} {l m : List α}
variable (K) in
inductive Row.Grow : Value → List α → Seg → Prop
  | nil : Row.Grow (.slice none 0 0) [] []
  | row (p : Nat) (l j : List α) : Row.Grow (.slice (some ⟨p, 0, none⟩) l.length (2 * (l ++ j).length)) l [(p, ⟨K.flat (l ++ j), K.n, false⟩)]
theorem Row.Grow.cases' (O : K.Grow V l S) : (V = .slice none 0 0 ∧ l = [] ∧ S = []) ∨ ∃ p j, V = .slice (some ⟨p, 0, none⟩) l.length (2 * (l ++ j).length) ∧ S = [(p, ⟨K.flat (l ++ j), K.n, false⟩)] := by
  cases O with
  | nil => exact .inl ⟨rfl, rfl, rfl⟩
  | row p l j => exact .inr ⟨p, j, rfl, rfl⟩
theorem Row.Grow.one (O : K.Grow V l S) : V.cells.toList = [V] ∧ V.oneCell' = true := by
  cases O <;> exact ⟨rfl, rfl⟩
theorem Row.Grow.sl (O : K.Grow V l S) (M : ∀ p ∈ S, h.get p.1 = some p.2) : K.Sl h V l := by
  cases O with
  | nil => exact .nil
  | row p l j =>
    have hb := M _ (List.mem_singleton.2 rfl)
    refine .row p 0 _ l ⟨_, hb, by simp [K.flat_length, Nat.add_mul], ?_⟩
    rw [List.drop_zero, K.flat_append, List.take_left]
theorem splice_flat {l m j : List α} (hm : m.length ≤ j.length) : splice (K.flat (l ++ j)) (l.length * K.n) (K.flat m) = K.flat (l ++ m ++ j.drop m.length) := by
  have e1 : l.length * K.n = (K.flat l).length := by rw [K.flat_length]
  have e2 : (K.flat m).length = (K.flat (j.take m.length)).length := by rw [K.flat_length, K.flat_length, List.length_take]; congr 1; omega
  have e3 : K.flat j = K.flat (j.take m.length) ++ K.flat (j.drop m.length) := by rw [← K.flat_append, List.take_append_drop]
  unfold splice
  rw [e1, K.flat_append, List.take_left, ← List.drop_drop, List.drop_left, e2, e3, List.drop_left, K.flat_append, K.flat_append]
theorem WS.appG {S : Seg} {x z : Operand} {bytes es : Nat} (O : K.Grow V l S) (M : Mem base h (S :: L) R) (A : K.Src h y m) (hm : m ≠ []) (hes : es = K.n) (hb : (l.length + m.length) * bytes ≤ 140737488355328) (hn : l.length + m.length ≤ 1099511627776) (hg : gd e g = some true) (hx : ev e x = some V) (hy : ev e z = some y)
    (k : ∀ V' S' h1, K.Grow V' (l ++ m) S' → Mem base h1 (S' :: L) R → WS tab rb ss (put e d V') h1 q) : WS tab rb (.op d g (.app es bytes x z) :: ss) e h q := by
  subst hes
  obtain ⟨a1, a2⟩ := A
  have hall := plain1_one (K.flat_plain m)
  have hml : m.length ≠ 0 := fun e => hm (List.eq_nil_of_length_eq_zero e)
  cases O with
  | nil =>
    refine .op hg (op_app hx hy (r := (.slice (some ⟨h.next, 0, none⟩) m.length (2 * m.length), h.alloc ⟨K.flat m, K.n, false⟩)) ?_) (k _ [(h.next, ⟨K.flat m, K.n, false⟩)] _ ?_ (Mem.perm (M.alloc _) (by simp)))
    · simp only [appE, a1, a2]
      simp only [List.length_nil, Nat.zero_add] at hb hn
      rw [if_neg hml, if_pos ⟨hb, hn, hall⟩]; rfl
    · have := Row.Grow.row (K := K) h.next m []
      rw [List.append_nil] at this
      rw [List.nil_append]; exact this
  | row p l j =>
    have hg2 : h.get p = some ⟨K.flat (l ++ j), K.n, false⟩ := M.own0 _ (List.mem_singleton.2 rfl)
    have hlj : (l ++ j).length = l.length + j.length := List.length_append
    by_cases c : m.length ≤ j.length
    · have hsp := splice_flat (K := K) (l := l) c
      have hle : 0 + l.length * K.n + (K.flat m).length ≤ (K.flat (l ++ j)).length := by
        rw [K.flat_length, K.flat_length, hlj, Nat.add_mul, Nat.zero_add]
        have := Nat.mul_le_mul_right K.n c; omega
      have hst : h.sts ⟨p, 0 + l.length * K.n, none⟩ (K.flat m) = some (h.set p (some ⟨K.flat (l ++ m ++ j.drop m.length), K.n, false⟩)) := by
        have hpos : 0 < (K.flat m).length := by rw [K.flat_length]; exact Nat.mul_pos (by omega) K.pos
        rw [← hsp]
        generalize hfl : K.flat m = fl at *
        match fl, hpos, hall with
        | v :: vs, _, hall =>
          have := sts_at hg2 rfl (off := 0 + l.length * K.n) (v := v) (vs := vs) hle hall
          rw [this, Nat.zero_add]
      refine .op hg (op_app hx hy (r := (.slice (some ⟨p, 0, none⟩) (l.length + m.length) (2 * (l ++ j).length), h.set p (some ⟨K.flat (l ++ m ++ j.drop m.length), K.n, false⟩))) ?_) (k _ _ _ ?_ (Mem.set (S1 := []) (S2 := []) M _))
      · simp only [appE, a1, a2]
        rw [if_pos (by omega)]
        show (match h.sts ⟨p, 0 + l.length * K.n, none⟩ (K.flat m) with | some h2 => some (Value.slice (some ⟨p, 0, none⟩) (l.length + m.length) (2 * (l ++ j).length), h2) | none => none) = _
        rw [hst]
      · have := Row.Grow.row (K := K) p (l ++ m) (j.drop m.length)
        have e1 : (l ++ m ++ j.drop m.length).length = (l ++ j).length := by simp; omega
        rw [e1, List.length_append] at this; exact this
    · have M2 := (Mem.free (S1 := []) (S2 := []) M).alloc ⟨K.flat (l ++ m), K.n, false⟩
      refine .op hg (op_app hx hy (r := (.slice (some ⟨h.next, 0, none⟩) (l.length + m.length) (2 * (l.length + m.length)), (h.set p none).alloc ⟨K.flat (l ++ m), K.n, false⟩)) ?_) (k _ [(h.next, ⟨K.flat (l ++ m), K.n, false⟩)] _ ?_ (Mem.perm M2 (by simp [H.next_set])))
      · simp only [appE, a1, a2]
        rw [if_neg (by omega), if_pos ⟨hb, hn, hall⟩, lds_at hg2 (by rw [K.flat_length, hlj, Nat.add_mul]; omega)]
        simp only
        rw [if_neg (by omega)]
        simp only [hg2]
        rw [if_pos ⟨trivial, trivial, trivial⟩, List.drop_zero, K.flat_append, ← K.flat_length, List.take_left, K.flat_append]
      · have := Row.Grow.row (K := K) h.next (l ++ m) []
        rw [List.append_nil, List.length_append] at this; exact this
theorem op_slVG0 {x z : Operand} {k : IntKind} {p : Nat} {l j : List α} {es : Nat} (i : Nat) (hes : es = K.n) (hb : h.get p = some ⟨K.flat (l ++ j), K.n, false⟩) (hx : ev e x = some (.slice (some ⟨p, 0, none⟩) l.length (2 * (l ++ j).length))) (hz : ev e z = some (.int k (i : Int))) (hi : i ≤ l.length) : opE (.slV es x (some z) none none) e h none = some (.slice (some ⟨p, i * K.n, none⟩) (l.length - i) (2 * ((l ++ j).length - i)), h) := by
  subst hes
  have hlj : (l ++ j).length = l.length + j.length := List.length_append
  have hnn : bnd e none = some none := rfl
  simp only [opE, hx, bnd_nat hz, hnn, Option.getD_some, Option.getD_none]
  rw [if_pos ⟨by omega, by omega, by omega, by simp⟩, if_neg (by simp)]
  simp only [hb, if_true, Nat.zero_add]
  congr 4
  omega
theorem Row.flat_setN {l : List α} {j : Nat} {y' : α} (hj : j < l.length) : splice (K.flat l) (j * K.n) (K.cells y') = K.flat (l.set j y') := by
  have h1 := splice_flat (K := K) (l := l.take j) (m := [y']) (j := l.drop j) (by simp; omega)
  rw [List.take_append_drop, List.length_take, Nat.min_eq_left (by omega)] at h1
  rw [show K.cells y' = K.flat [y'] by simp [Row.flat], h1, List.set_eq_take_append_cons_drop, if_pos hj, List.drop_drop]
  simp
theorem WS.stN {p j es n : Nat} {l : List α} {y' : α} {v : Value} {x z : Operand} (M : Mem base h ([(p, ⟨K.flat l, es, false⟩)] :: L) R) (hj : j < l.length) (hg : gd e g = some true) (hx : ev e x = some (.pointer (some ⟨p, 0 + j * K.n, none⟩))) (hz : ev e z = some v) (hv : v.cells.toList = K.cells y') (hn : n = K.n)
    (w : ∀ h1, Mem base h1 ([(p, ⟨K.flat (l.set j y'), es, false⟩)] :: L) R → WS tab rb ss (put e d undef) h1 q) : WS tab rb (.op d g (.st n x z) :: ss) e h q := by
  subst hn
  have hle : 0 + j * K.n + K.n ≤ (K.flat l).length := by
    rw [K.flat_length]
    have := Nat.mul_le_mul_right K.n (show j + 1 ≤ l.length by omega)
    rw [Nat.add_mul, Nat.one_mul] at this; omega
  have hall : (K.cells y').all (·.oneCell') = true := by
    have := plain1_one (K.flat_plain [y'])
    simpa [Row.flat] using this
  exact WS.st1 M (K.cells y') (K.flat (l.set j y')) hg hx hz hv (by rw [K.len]) K.pos hle hall (by rw [Nat.zero_add]; exact Row.flat_setN hj) w
theorem op_slVX {x z : Operand} {k : IntKind} {p n m es : Nat} {B : Blk} (i : Nat) (hi : i ≤ m) (hx : ev e x = some (.slice (some ⟨p, 0, none⟩) n (2 * m))) (hz : ev e z = some (.int k (i : Int))) (hb : h.get p = some B) (he : B.es = es) : opE (.slV es x none (some z) none) e h none = some (.slice (some ⟨p, 0, none⟩) i (2 * m), h) := by
  have hnn : bnd e none = some none := rfl
  simp only [opE, hx, bnd_nat hz, hnn, Option.getD_some, Option.getD_none]
  rw [if_pos ⟨by omega, by omega, by omega, by simp⟩, if_neg (by simp)]
  simp only [hb, he, if_true, Nat.zero_mul, Nat.zero_add, Nat.sub_zero]
  congr 3
  omega
theorem zrep_flat {z : List Value} {y0 : α} (hz : K.cells y0 = z) (n : Nat) : zrep z n = K.flat (List.replicate n y0) := by
  induction n with
  | zero => rfl
  | succ n ih => rw [List.replicate_succ, K.flat_cons, ← ih, hz]; rfl
theorem WS.clrG {x : Operand} {p es : Nat} {u w j : List α} {z : List Value} {y0 : α} {c : Nat} (M : Mem base h ([(p, ⟨K.flat (u ++ w ++ j), K.n, false⟩)] :: L) R) (hz : K.cells y0 = z) (hg : gd e g = some true) (hx : ev e x = some (.slice (some ⟨p, u.length * K.n, none⟩) w.length c))
    (k : ∀ h1, Mem base h1 ([(p, ⟨K.flat (u ++ List.replicate w.length y0 ++ j), K.n, false⟩)] :: L) R → WS tab rb ss (put e d undef) h1 q) : WS tab rb (.op d g (.clr es z x) :: ss) e h q := by
  have hg2 : h.get p = some ⟨K.flat (u ++ w ++ j), K.n, false⟩ := M.own0 _ (List.mem_singleton.2 rfl)
  by_cases hw : w.length = 0
  · have : w = [] := List.eq_nil_of_length_eq_zero hw
    subst this
    refine .op (v := undef) hg (by simp only [opE, hx]; rfl) (k _ (by simpa using M))
  · have hall := plain1_one (K.flat_plain (List.replicate w.length y0))
    have hsp := splice_flat (K := K) (l := u) (m := List.replicate w.length y0) (j := w ++ j) (by simp)
    have hdr : (w ++ j).drop (List.replicate w.length y0).length = j := by rw [List.length_replicate, List.drop_left]
    rw [hdr, ← List.append_assoc] at hsp
    have hpos : 0 < (K.flat (List.replicate w.length y0)).length := by rw [K.flat_length, List.length_replicate]; exact Nat.mul_pos (by omega) K.pos
    have hle : u.length * K.n + (K.flat (List.replicate w.length y0)).length ≤ (K.flat (u ++ w ++ j)).length := by
      rw [K.flat_length, K.flat_length, List.length_replicate]
      simp only [List.length_append, Nat.add_mul]; omega
    have hst : h.sts ⟨p, u.length * K.n, none⟩ (zrep z w.length) = some (h.set p (some ⟨K.flat (u ++ List.replicate w.length y0 ++ j), K.n, false⟩)) := by
      rw [zrep_flat hz, ← hsp]
      generalize hfl : K.flat (List.replicate w.length y0) = fl at *
      match fl, hpos, hall with
      | v :: vs, _, hall => exact sts_at hg2 rfl (off := u.length * K.n) (v := v) (vs := vs) hle hall
    refine .op (v := undef) (h1 := h.set p (some ⟨K.flat (u ++ List.replicate w.length y0 ++ j), K.n, false⟩)) hg ?_ (k _ (Mem.set (S1 := []) (S2 := []) M _))
    simp only [opE, hx]
    rw [if_neg hw, hst]; rfl
end
end Go.Proofs.Ytomaijljeacpjaa.Am
namespace Go.Proofs.Ytomaijljeacpjaa.Wt
open Go Go.Proofs.Ytomaijljeacpjaa.Am Go.Proofs.Ytomaijljeacpjaa.IrAll
open Go.Proofs.Ytomaijljeacpjaa.Am.WS renaming op → C
open Nat renaming le_of_ble_eq_true → D
open Go.Proofs.Ytomaijljeacpjaa.Am.WC renaming seq → F
open Go.Proofs.Ytomaijljeacpjaa.Am.WS renaming nil → G
open Go.Proofs.Ytomaijljeacpjaa.Am.WC renaming run → J
set_option linter.unusedVariables false
set_option linter.unusedSimpArgs false
structure Ses where
  id : UInt64
  tt : UInt64
  lf : UInt64
  sq : UInt64
  kp : List UInt8
  deriving DecidableEq
def Ses.cells (x : Ses) : List Value := [(.int .u64 (((x.id).toNat : Nat) : Int)), (.int .u64 (((x.tt).toNat : Nat) : Int)), (.int .u64 (((x.lf).toNat : Nat) : Int)), (.int .u64 (((x.sq).toNat : Nat) : Int)), (.string (bs x.kp))]
def KSes : Row Ses := ⟨Ses.cells, 5, fun _ => rfl, by decide, fun _ => rfl⟩
variable {h base : H} {L : List Seg} {R : List Nat}
structure Tab where
  l : List Ses
  la : UInt64
def NoId (l : List Ses) (i : UInt64) : Prop := ∀ y ∈ l, y.id ≠ i
def IsAt (l : List Ses) (i : UInt64) (j : Nat) (y : Ses) : Prop := l[j]? = some y ∧ y.id = i ∧ ∀ k z, k < j → l[k]? = some z → z.id ≠ i
theorem find1_ran (W : Mem h h [] []) {y : Ses} {p : Nat} {i : UInt64} (hp : h.get p = some ⟨[.int .u64 ((i.toNat : Nat) : Int)], 0, false⟩) : Cll tab0 50 [.agg (Ses.cells y).toArray, .pointer (some ⟨p, 0, none⟩)] h (fun v h2 => v = .bool (decide (y.id = i)) ∧ Mem h h2 [] []) := by
  refine Cll.code rfl rfl ?_
  refine WC.env [(0, _), (1, _)] rfl ?_
  refine F (J (WS.box W [_, _, _, _, _] rfl rfl rfl rfl ?_))
  intro p1 h2 M3
  refine C rfl rfl (G [(1, _), (2, _)] rfl ?_)
  refine F (J (C rfl rfl (C rfl (op_ld (M3.at 0 rfl) rfl rfl) (C rfl (op_ld (M3.sub _ _ hp) rfl rfl) ?_))))
  refine WS.eqlN (a := (y.id).toNat) (b := (i).toNat) rfl rfl rfl (fun e7 => ?_) (fun e7 => ?_)
  ·
   refine C rfl rfl (G [(3, _)] rfl ?_)
   refine WC.ret (⟨[_], (res_tmp rfl res_nil), ?_⟩)
   exact ⟨vbt (u64_inj e7), M3.bare.take 0⟩
  ·
   refine C rfl rfl (G [(3, _)] rfl ?_)
   refine WC.ret (⟨[_], (res_tmp rfl res_nil), ?_⟩)
   exact ⟨vbf (fun q => e7 (by rw [q])), M3.bare.take 0⟩
theorem idxSes_ran (W : Mem h h [] []) {V : Value} {l : List Ses} {p : Nat} {i : UInt64} (A : KSes.Sl h V l) (hp : h.get p = some ⟨[.int .u64 ((i.toNat : Nat) : Int)], 0, false⟩) (hl : l.length ≤ 1000000) : Cll tab0 49 [V, .func (.func 50) #[] #[.pointer (some ⟨p, 0, none⟩)]] h (fun v h2 => ((v = .int .i64 (-1) ∧ NoId l i) ∨ (∃ (j : Nat) (y : Ses), v = .int .i64 (j : Int) ∧ IsAt l i j y)) ∧ Mem h h2 [] []) := by
  refine Cll.code rfl rfl ?_
  refine WC.env [(0, _), (1, _)] rfl ?_
  refine F (J (C rfl rfl (G [(0, _), (1, _)] rfl ?_)))
  refine F (F (J (C rfl rfl (C rfl (op_lenVS A rfl) (C rfl rfl (G [(0, _), (1, _), (7, _), (8, _)] rfl ?_))))))
  refine WC.block ?_
  obtain ⟨L1, eL3, M2⟩ := Mem.name W.bare
  refine WC.loop (σ := Nat) (fun (n) => [(0, V), (1, (.func (.func 50) #[] #[(.pointer (some ⟨p, 0, none⟩))])), (7, (.int .i64 (((l).length : Nat) : Int))), (8, (.int .i64 ((n : Nat) : Int)))]) (fun (n) hh => Mem h hh (L1) [] ∧ (∀ k z, k < n → l[k]? = some z → z.id ≠ i) ∧ n ≤ l.length) (fun (n) => l.length - n) (0) rfl ⟨M2, ?_⟩ ?_
  · exact ⟨fun k z q => by omega, by omega⟩
  ·rintro n h4 ⟨M5, ⟨hO, hi1⟩⟩
   replace eL3 := eL3.symm; subst eL3
   refine WC.env [(0, _), (1, _), (7, _), (8, _)] rfl ?_
   refine F (J (WS.lssN (a := n) (b := (l).length) rfl rfl rfl (fun e9 => ?_) (fun e9 => ?_)))
   ·
    refine G [(0, _), (1, _), (7, _), (8, _), (9, _)] rfl ?_
    refine F (WC.condT rfl (WC.skip (F (WC.block (F (J (C rfl rfl (C rfl rfl (G [(0, _), (1, _), (5, _), (7, _), (8, _)] rfl ?_)))))))))
    refine F (J (C rfl rfl (C rfl rfl (C rfl rfl ?_))))
    obtain ⟨y14, hy14⟩ : ∃ y, (l)[n]? = some y := ⟨_, List.getElem?_eq_getElem (show n < (l).length by first | omega | (simp only [List.length_drop, List.length_take, List.length_append, List.length_cons, List.length_nil, List.length_singleton]; omega) | (simp only [List.length_drop, List.length_take, List.length_append, List.length_cons, List.length_nil, List.length_singleton] at *; omega))⟩
    refine WS.iaVS A n hy14 rfl rfl rfl rfl ?_
    intro b14_ o14_ ha14
    refine C rfl (op_ldAt rfl (ha14.mono M5.sub) rfl) ?_
    refine WS.call rfl rfl rfl (find1_ran M5.here (y := y14) (M5.sub _ _ hp)) ?_
    rintro _ h6 ⟨rfl, N7⟩
    have M8 := M5.trans N7
    refine G [(0, _), (1, _), (5, _), (7, _), (8, _), (16, _)] rfl ?_
    cases hb1 : (decide (y14.id = i))
    ·
     refine WC.condF rfl (WC.skip (J (WS.opV (.int .i64 (((n + 1) : Nat) : Int)) rfl rfl (add_i64 (a := n) (b := 1) (by omega)) (C rfl rfl (G [(0, _), (1, _), (7, _), (8, _)] rfl ?_)))))
     refine ⟨n + 1, rfl, ⟨(M8.bare.take 0), ?_⟩, ?_⟩
     · exact ⟨fun k z q e => by rcases Nat.lt_or_ge k n with w | w; exact hO k z w e; (have : k = n := by omega); subst this; rw [hy14] at e; cases e; exact of_decide_eq_false hb1, by omega⟩
     · simp only []; omega
    ·
     refine WC.condT rfl (F (J (C rfl rfl (C rfl rfl (G [(4, _)] rfl ?_)))))
     refine WC.ret (⟨[_], (res_tmp rfl res_nil), ?_⟩)
     exact ⟨.inr ⟨n, y14, rfl, hy14, of_decide_eq_true hb1, hO⟩, M8.bare.take 0⟩
   ·
    refine G [(0, _), (1, _), (7, _), (8, _), (9, _)] rfl ?_
    refine F (WC.condF rfl (WC.exit ?_))
    refine F (J (C rfl rfl (G [(4, _)] rfl ?_)))
    refine WC.ret (⟨[_], (res_tmp rfl res_nil), ?_⟩)
    exact ⟨.inl ⟨rfl, fun y hy => by obtain ⟨k, hk, rfl⟩ := List.mem_iff_getElem.1 hy; exact hO k _ (by omega) (List.getElem?_eq_getElem hk)⟩, M5.bare.take 0⟩
theorem find_ran {t : Nat} {T : Tab} {V : Value} {S : Seg} {i : UInt64} (O : KSes.Grow V T.l S) (M : Mem base h (S :: [(t, ⟨[V, .int .u64 ((T.la.toNat : Nat) : Int)], 0, false⟩)] :: L) []) (hl : T.l.length ≤ 1000000) : Cll tab0 29 [.pointer (some ⟨t, 0, none⟩), .int .u64 ((i.toNat : Nat) : Int)] h (fun v h2 =>
    (v = .pointer none ∧ NoId T.l i ∧ Mem base h2 (S :: [(t, ⟨[V, .int .u64 ((T.la.toNat : Nat) : Int)], 0, false⟩)] :: L) []) ∨
    (∃ p jk j y, V = .slice (some ⟨p, 0, none⟩) T.l.length (2 * (T.l ++ jk).length) ∧ S = [(p, ⟨KSes.flat (T.l ++ jk), 5, false⟩)] ∧ v = .pointer (some ⟨p, 0 + j * 5, none⟩) ∧ T.l[j]? = some y ∧ y.id = i ∧ (∀ k z, k < j → T.l[k]? = some z → z.id ≠ i) ∧ Mem base h2 (S :: [(t, ⟨[V, .int .u64 ((T.la.toNat : Nat) : Int)], 0, false⟩)] :: L) [])) := by
  refine Cll.code rfl rfl ?_
  refine WC.env [(0, _), (1, _)] rfl ?_
  refine F (J (WS.box M [_] rfl rfl rfl rfl ?_))
  intro p1 h2 M3
  refine C rfl rfl (G [(0, _), (3, _)] rfl ?_)
  refine F (F (J (C rfl rfl (WS.opV (.bool false) rfl rfl rfl (G [(0, _), (3, _), (7, _)] rfl ?_)))))
  refine WC.condF rfl (WC.skip (F (J (C rfl rfl (C rfl rfl (C rfl rfl (C rfl (op_ld (M3.at 2 rfl) rfl rfl) (C rfl rfl ?_))))))))
  refine WS.call rfl rfl rfl (idxSes_ran M3.here (Row.Grow.sl O (Mem.owni M3 1 rfl)) (i := i) (M3.at 0 rfl) (by omega)) ?_
  rintro _ h4 ⟨(⟨rfl, hnf⟩ | ⟨j, y, rfl, hat⟩), N5⟩
  ·
   have M7 := M3.trans N5
   refine C rfl rfl (G [(0, _), (5, _)] rfl ?_)
   refine F (F (J (C rfl rfl (WS.opV (.bool true) rfl rfl rfl (G [(0, _), (5, _), (15, _)] rfl ?_)))))
   refine WC.condT rfl (F (J (C rfl rfl (G [(4, _)] rfl ?_))))
   refine WC.ret (⟨[_], (res_tmp rfl res_nil), ?_⟩)
   exact .inl ⟨rfl, hnf, (M7.focus 0 rfl).drop⟩
  ·
   have M8 := M3.trans N5
   refine C rfl rfl (G [(0, _), (5, _)] rfl ?_)
   refine F (F (J (C rfl rfl ?_)))
   refine WS.lssN (a := j) (b := 0) rfl rfl rfl (fun e15 => ?_) (fun e15 => ?_)
   ·
    exact absurd e15 (by omega)
   ·
    refine G [(0, _), (5, _), (15, _)] rfl ?_
    refine WC.condF rfl (WC.skip (F (J (C rfl rfl (C rfl rfl (C rfl rfl (C rfl (op_ld (M8.at 2 rfl) rfl rfl) (C rfl rfl ?_))))))))
    obtain ⟨hat1, hat2, hat3⟩ := hat
    obtain (⟨rfl, hl0, rfl⟩ | ⟨p, jk, rfl, rfl⟩) := O.cases'
    · rw [hl0] at hat1; simp at hat1
    have hj := (List.getElem?_eq_some_iff.1 hat1).1
    refine C rfl (op_iaV2 j rfl rfl hj) (C rfl rfl (G [(4, _)] rfl ?_))
    refine WC.ret (⟨[_], (res_tmp rfl res_nil), ?_⟩)
    exact .inr ⟨p, jk, j, y, rfl, rfl, rfl, hat1, hat2, hat3, (M8.focus 0 rfl).drop⟩
def openT (T : Tab) (ttl : UInt64) : Tab × UInt64 × UInt8 := if ttl.toNat = 0 then (T, 0, 11) else if T.l.length = 4 then (T, 0, 9) else (⟨T.l ++ [⟨T.la + 1, ttl, ttl, 0, []⟩], T.la + 1⟩, T.la + 1, 0)
theorem Open_ran {t : Nat} {T : Tab} {V : Value} {S : Seg} {ttl : UInt64} (O : KSes.Grow V T.l S) (M : Mem base h (S :: [(t, ⟨[V, .int .u64 ((T.la.toNat : Nat) : Int)], 0, false⟩)] :: L) []) (hl : T.l.length ≤ 1000) : Cll tab0 12 [.pointer (some ⟨t, 0, none⟩), .int .u64 ((ttl.toNat : Nat) : Int)] h (fun v h2 => ∃ V2 S2, KSes.Grow V2 (openT T ttl).1.l S2 ∧ v = .tuple #[.int .u64 (((openT T ttl).2.1.toNat : Nat) : Int), .int .u8 (((openT T ttl).2.2.toNat : Nat) : Int)] ∧ Mem base h2 (S2 :: [(t, ⟨[V2, .int .u64 (((openT T ttl).1.la.toNat : Nat) : Int)], 0, false⟩)] :: L) []) := by
  refine Cll.code rfl rfl ?_
  refine WC.env [(0, _), (1, _)] rfl ?_
  refine F (J (C rfl rfl (C rfl rfl (G [(0, _), (1, _)] rfl ?_))))
  refine F (WC.block (F (J (C rfl rfl (WS.opV (.bool false) rfl rfl rfl (C rfl rfl (G [(0, _), (1, _), (6, _)] rfl ?_)))))))
  refine WC.condF rfl (F (J (C rfl rfl ?_)))
  refine WS.eqlN (a := (ttl).toNat) (b := 0) rfl rfl rfl (fun e11 => ?_) (fun e11 => ?_)
  ·
   refine C rfl rfl (G [(0, _), (1, _), (9, _)] rfl ?_)
   refine WC.condT rfl (F (J (C rfl rfl (C rfl rfl (G [(4, _), (5, _)] rfl ?_)))))
   refine WC.ret (⟨[_, _], (res_tmp rfl (res_tmp rfl res_nil)), ?_⟩)
   have hq : openT T ttl = (T, 0, 11) := by unfold openT; rw [if_pos (by omega)]
   rw [hq]
   exact ⟨_, _, O, rfl, M⟩
  ·
   refine C rfl rfl (G [(0, _), (1, _), (9, _)] rfl ?_)
   refine WC.condF rfl (F (J (C rfl rfl (C rfl rfl (C rfl rfl (C rfl (op_ld (M.at 1 rfl) rfl rfl) (C rfl (op_lenVS (Row.Grow.sl O (Mem.owni M 0 rfl)) rfl) ?_)))))))
   refine WS.eqlN (a := (T.l).length) (b := 4) rfl rfl rfl (fun e18 => ?_) (fun e18 => ?_)
   ·
    refine C rfl rfl (G [(0, _), (1, _), (12, _)] rfl ?_)
    refine WC.condT rfl (F (J (C rfl rfl (C rfl rfl (G [(4, _), (5, _)] rfl ?_)))))
    refine WC.ret (⟨[_, _], (res_tmp rfl (res_tmp rfl res_nil)), ?_⟩)
    have hq : openT T ttl = (T, 0, 9) := by unfold openT; rw [if_neg (by omega), if_pos (by omega)]
    rw [hq]
    exact ⟨_, _, O, rfl, M⟩
   ·
    refine C rfl rfl (G [(0, _), (1, _), (12, _)] rfl ?_)
    refine WC.condF rfl (WC.skip (F (J (C rfl rfl (C rfl rfl (C rfl rfl (C rfl (op_ld (M.at 1 rfl) rfl rfl) (WS.opV (.int .u64 (((T.la + 1).toNat : Nat) : Int)) rfl rfl (add1_u64 (x := T.la)) (C rfl rfl (C rfl rfl ?_))))))))))
    refine WS.st1 (M.focus 1 rfl) [_] [_, _] rfl rfl rfl rfl rfl (D rfl) (D rfl) rfl rfl ?_
    intro h1 M2
    replace M2 : Mem _ _ ([(t, _)] :: S :: L) _ := M2
    refine G [(0, _), (1, _)] rfl ?_
    refine F (WC.draw M2 [12] rfl ?_)
    intro rb3 h4 M5
    refine C rfl rfl (C rfl rfl (C rfl rfl (C rfl rfl (C rfl (op_ld (M5.at 0 rfl) rfl rfl) (C rfl rfl (C rfl rfl (C rfl rfl (C rfl (op_ld (M5.at 0 rfl) rfl rfl) (C rfl rfl ?_)))))))))
    refine C rfl rfl (WS.opV (.agg #[(.int .u64 (((T.la + 1).toNat : Nat) : Int)), (.int .u64 (((ttl).toNat : Nat) : Int)), (.int .u64 (((ttl).toNat : Nat) : Int)), (.int .u64 (0 : Int)), (.string (bs ([])))]) rfl rfl rfl ?_)
    refine WS.bslA M5 [_, _, _, _, _] 0 rfl rfl rfl rfl rfl ?_
    intro h7 M8
    refine WS.appG (l := T.l) (m := [(⟨T.la + 1, ttl, ttl, 0, []⟩ : Ses)]) O (M8.focus 2 rfl) (Row.Src.one (K := KSes) (m := [(⟨T.la + 1, ttl, ttl, 0, []⟩ : Ses)]) (M8.at 0 rfl)) (by simp) rfl (by simp only [List.length_cons, List.length_nil]; omega) (by simp only [List.length_cons, List.length_nil]; omega) rfl rfl rfl ?_
    intro V9 S10 h11 O12 M13
    replace M13 : Mem _ _ (S10 :: [((rb3 + 12), _)] :: [(t, _)] :: L) _ := M13
    refine C rfl rfl (C rfl rfl ?_)
    refine WS.st1 (M13.focus 2 rfl) [_] [_, _] rfl rfl rfl (Row.Grow.one O12).1 rfl (D rfl) (D rfl) (by simp only [List.all_cons, List.all_nil, Bool.and_true]; exact (Row.Grow.one O12).2) rfl ?_
    intro h14 M15
    replace M15 : Mem _ _ ([(t, _)] :: S10 :: [((rb3 + 12), _)] :: L) _ := M15
    refine G [(0, _)] rfl ?_
    refine F (J (C rfl rfl (C rfl rfl (C rfl rfl (C rfl (op_ld (M15.bare.at 0 rfl) rfl rfl) (C rfl rfl (C rfl rfl (G [(4, _), (5, _)] rfl ?_))))))))
    refine WC.ret (⟨[_, _], (res_tmp rfl (res_tmp rfl res_nil)), ?_⟩)
    have hq : openT T ttl = (⟨T.l ++ [⟨T.la + 1, ttl, ttl, 0, []⟩], T.la + 1⟩, T.la + 1, 0) := by unfold openT; rw [if_neg (by omega), if_neg (by omega)]
    rw [hq]
    exact ⟨_, _, O12, rfl, ((((M15.bare.focus 2 rfl).drop).focus 0 rfl).focus 1 rfl)⟩
def SetG (T : Tab) (j : Nat) (y : Ses) : Tab := ⟨T.l.set j y, T.la⟩
theorem grow_set {p j : Nat} {l jk : List Ses} {y : Ses} (hj : j < l.length) : KSes.Grow (.slice (some ⟨p, 0, none⟩) l.length (2 * (l ++ jk).length)) (l.set j y) [(p, ⟨KSes.flat ((l ++ jk).set j y), 5, false⟩)] := by
  have := Row.Grow.row (K := KSes) p (l.set j y) jk
  rw [List.length_set, show (l.set j y ++ jk).length = (l ++ jk).length by simp, ← List.set_append_left _ _ hj] at this
  exact this
set_option maxRecDepth 8000 in
theorem Look_ran {t : Nat} {T : Tab} {V : Value} {S : Seg} {i sq : UInt64} (O : KSes.Grow V T.l S) (M : Mem base h (S :: [(t, ⟨[V, .int .u64 ((T.la.toNat : Nat) : Int)], 0, false⟩)] :: L) []) (hl : T.l.length ≤ 1000) (hk : ∀ y ∈ T.l, y.kp.length ≤ 299000) : Cll tab0 13 [.pointer (some ⟨t, 0, none⟩), .int .u64 ((i.toNat : Nat) : Int), .int .u64 ((sq.toNat : Nat) : Int)] h (fun v h2 => ∃ V2 S2 T2 r Vr Sr ag cd, KSes.Grow V2 (Tab.l T2) S2 ∧ KRrow.Own Vr (Res.rs r) Sr ∧ v = .tuple #[r.val Vr, .bool ag, .int .u8 ((UInt8.toNat cd : Nat) : Int)] ∧ FitRes r ∧
    ((NoId T.l i ∧ T2 = T ∧ r = zeroR ∧ ag = false ∧ cd = 5) ∨ (∃ j y, IsAt T.l i j y ∧ T2 = SetG T j { y with lf := y.tt } ∧ ((sq.toNat = 0 ∨ sq.toNat < y.sq.toNat) → r = zeroR ∧ ag = false ∧ cd = 6) ∧ (¬ (sq.toNat = 0 ∨ sq.toNat < y.sq.toNat) → sq = y.sq → ag = true ∧ cd = 0 ∧ ∃ ok, RdR y.kp r ok) ∧ (¬ (sq.toNat = 0 ∨ sq.toNat < y.sq.toNat) → sq ≠ y.sq → r = zeroR ∧ ag = false ∧ cd = 0))) ∧ Mem base h2 (S2 :: Sr :: [(t, ⟨[V2, .int .u64 ((T2.la.toNat : Nat) : Int)], 0, false⟩)] :: L) []) := by
  refine Cll.code rfl rfl ?_
  refine WC.env [(0, _), (1, _), (2, _)] rfl ?_
  refine F (J (WS.new M rfl ?_))
  intro p1 h2 M3
  refine C rfl rfl (C rfl rfl (G [(0, _), (1, _), (2, _), (6, _)] rfl ?_))
  refine F (J (C rfl rfl (C rfl rfl ?_)))
  refine WS.call rfl rfl rfl (find_ran (T := T) (i := i) O ((M3.focus 2 rfl).focus 2 rfl) (by omega)) ?_
  rintro _ h4 (⟨rfl, hnf14, M5⟩ | ⟨p6, jk7, j8, y9, hV14, hS14, rfl, hy14, hi14, hm14, M5⟩)
  ·
   replace M5 : Mem _ _ (S :: [(t, _)] :: [(p1, _)] :: L) _ := M5
   refine C rfl rfl (G [(2, _), (6, _), (9, _)] rfl ?_)
   refine F (F (J (C rfl rfl (WS.opV (.bool true) rfl rfl rfl (G [(2, _), (6, _), (9, _), (16, _)] rfl ?_)))))
   refine WC.condT rfl (F (J (WS.opV (.agg #[(.int .u8 (0 : Int)), (.int .u64 (0 : Int)), (.string (bs ([]))), (.slice none 0 0)]) rfl rfl rfl ?_)))
   refine WS.st1 (M5.focus 2 rfl) [_, _, _, _] [_, _, _, _] rfl rfl rfl rfl rfl (D rfl) (D rfl) rfl rfl ?_
   intro h10 M11
   replace M11 : Mem _ _ ([(p1, _)] :: S :: [(t, _)] :: L) _ := M11
   refine C rfl rfl (C rfl rfl (G [(6, _), (7, _), (8, _)] rfl ?_))
   refine WC.ret (⟨[_, _, _], (res_cellN [_, _, _, _] rfl (M11.at 0 rfl) (D rfl) rfl (res_tmp rfl (res_tmp rfl res_nil))), ?_⟩)
   exact ⟨_, _, T, zeroR, .slice none 0 0, [], false, 5, O, .nil, rfl, fitR0, .inl ⟨hnf14, rfl, rfl, rfl, rfl⟩, (((M11.focus 0 rfl).drop).nils.focus 1 rfl)⟩
  ·
   subst hV14 hS14
   replace M5 : Mem _ _ ([(p6, _)] :: [(t, _)] :: [(p1, _)] :: L) _ := M5
   have hz14 : ((T.l ++ jk7))[j8]? = some y9 := by rw [List.getElem?_append_left (List.getElem?_eq_some_iff.1 hy14).1]; exact hy14
   refine C rfl rfl (G [(2, _), (6, _), (9, _)] rfl ?_)
   refine F (F (J (C rfl rfl (WS.opV (.bool false) rfl rfl rfl (G [(2, _), (6, _), (9, _), (16, _)] rfl ?_)))))
   refine WC.condF rfl (WC.skip (F (J (C rfl rfl (C rfl rfl (C rfl rfl (C rfl rfl (C rfl (op_ldH rfl (Row.ld (K := KSes) (k := 1) (M5.at 0 rfl) hz14 rfl)) (C rfl rfl (C rfl rfl ?_))))))))))
   refine WS.stE (K := KSes) (y' := { y9 with lf := y9.tt }) (M5.focus 0 rfl) hz14 (by decide) rfl rfl rfl rfl rfl rfl ?_
   intro h12 M13
   replace M13 : Mem _ _ ([(p6, _)] :: [(t, _)] :: [(p1, _)] :: L) _ := M13
   have hye14 : ((T.l ++ jk7).set j8 { y9 with lf := y9.tt })[j8]? = some ({ y9 with lf := y9.tt } : Ses) := List.getElem?_set_self (List.getElem?_eq_some_iff.1 hz14).1
   refine G [(2, _), (6, _), (9, _)] rfl ?_
   refine F (WC.block (F (J (C rfl rfl ?_))))
   refine WS.eqlN (a := (sq).toNat) (b := 0) rfl rfl rfl (fun e27 => ?_) (fun e27 => ?_)
   ·
    refine C rfl rfl (WS.off rfl (WS.off rfl (WS.off rfl (WS.off rfl (WS.off rfl (WS.off rfl (C rfl rfl (C rfl rfl (G [(2, _), (6, _), (9, _), (25, _)] rfl ?_)))))))))
    refine WC.condT rfl (F (J (WS.opV (.agg #[(.int .u8 (0 : Int)), (.int .u64 (0 : Int)), (.string (bs ([]))), (.slice none 0 0)]) rfl rfl rfl ?_)))
    refine WS.st1 (M13.focus 2 rfl) [_, _, _, _] [_, _, _, _] rfl rfl rfl rfl rfl (D rfl) (D rfl) rfl rfl ?_
    intro h15 M16
    replace M16 : Mem _ _ ([(p1, _)] :: [(p6, _)] :: [(t, _)] :: L) _ := M16
    refine C rfl rfl (C rfl rfl (G [(6, _), (7, _), (8, _)] rfl ?_))
    refine WC.ret (⟨[_, _, _], (res_cellN [_, _, _, _] rfl (M16.at 0 rfl) (D rfl) rfl (res_tmp rfl (res_tmp rfl res_nil))), ?_⟩)
    exact ⟨_, _, SetG T j8 { y9 with lf := y9.tt }, zeroR, .slice none 0 0, [], false, 6, grow_set (List.getElem?_eq_some_iff.1 hy14).1, .nil, rfl, fitR0, .inr ⟨j8, y9, ⟨hy14, hi14, hm14⟩, rfl, fun q => ⟨rfl, rfl, rfl⟩, fun q e => by exfalso; first | omega | (subst e; omega), fun q e => by exfalso; omega⟩, (((M16.focus 0 rfl).drop).nils.focus 1 rfl)⟩
   ·
    refine C rfl rfl (C rfl rfl (C rfl rfl (C rfl rfl (C rfl rfl (C rfl (op_ldH rfl (Row.ld (K := KSes) (k := 3) (M13.at 0 rfl) hye14 rfl)) ?_)))))
    refine WS.lssN (a := (sq).toNat) (b := (y9.sq).toNat) rfl rfl rfl (fun e34 => ?_) (fun e34 => ?_)
    ·
     refine C rfl rfl (C rfl rfl (G [(2, _), (6, _), (9, _), (25, _)] rfl ?_))
     refine WC.condT rfl (F (J (WS.opV (.agg #[(.int .u8 (0 : Int)), (.int .u64 (0 : Int)), (.string (bs ([]))), (.slice none 0 0)]) rfl rfl rfl ?_)))
     refine WS.st1 (M13.focus 2 rfl) [_, _, _, _] [_, _, _, _] rfl rfl rfl rfl rfl (D rfl) (D rfl) rfl rfl ?_
     intro h17 M18
     replace M18 : Mem _ _ ([(p1, _)] :: [(p6, _)] :: [(t, _)] :: L) _ := M18
     refine C rfl rfl (C rfl rfl (G [(6, _), (7, _), (8, _)] rfl ?_))
     refine WC.ret (⟨[_, _, _], (res_cellN [_, _, _, _] rfl (M18.at 0 rfl) (D rfl) rfl (res_tmp rfl (res_tmp rfl res_nil))), ?_⟩)
     exact ⟨_, _, SetG T j8 { y9 with lf := y9.tt }, zeroR, .slice none 0 0, [], false, 6, grow_set (List.getElem?_eq_some_iff.1 hy14).1, .nil, rfl, fitR0, .inr ⟨j8, y9, ⟨hy14, hi14, hm14⟩, rfl, fun q => ⟨rfl, rfl, rfl⟩, fun q e => by exfalso; first | omega | (subst e; omega), fun q e => by exfalso; omega⟩, (((M18.focus 0 rfl).drop).nils.focus 1 rfl)⟩
    ·
     refine C rfl rfl (C rfl rfl (G [(2, _), (6, _), (9, _), (25, _)] rfl ?_))
     refine WC.condF rfl (F (J (C rfl rfl (C rfl rfl (C rfl rfl (C rfl rfl (C rfl (op_ldH rfl (Row.ld (K := KSes) (k := 3) (M13.at 0 rfl) hye14 rfl)) ?_)))))))
     refine WS.eqlN (a := (sq).toNat) (b := (y9.sq).toNat) rfl rfl rfl (fun e43 => ?_) (fun e43 => ?_)
     ·
      refine C rfl rfl (G [(6, _), (9, _), (37, _)] rfl ?_)
      refine WC.condT rfl (F (J (C rfl rfl (C rfl rfl (C rfl rfl (C rfl (op_ldH rfl (Row.ld (K := KSes) (k := 4) (M13.at 0 rfl) hye14 rfl)) ?_))))))
      refine WS.call rfl rfl rfl (ReadR_ran M13.here (s := y9.kp) (by first | omega | exact hk _ (List.mem_of_getElem? hy14))) ?_
      rintro _ h19 ⟨r49, V22, S23, ok49, O24, rfl, hF49, hy49, hn49, hC49, N20⟩
      obtain ⟨P25, rfl⟩ := O24.shape
      have M21 := M13.trans N20
      replace M21 : Mem _ _ (S23 :: [(p6, _)] :: [(t, _)] :: [(p1, _)] :: L) _ := M21
      refine C rfl rfl (C rfl rfl (C rfl rfl ?_))
      refine WS.new M21 rfl ?_
      intro p26 h27 M28
      refine WS.st1 (M28.focus 0 rfl) [_, _, _, _] [_, _, _, _] rfl rfl rfl rfl rfl (D rfl) (D rfl) rfl rfl ?_
      intro h29 M30
      replace M30 : Mem _ _ ([(p26, _)] :: S23 :: [(p6, _)] :: [(t, _)] :: [(p1, _)] :: L) _ := M30
      refine C rfl rfl (G [(6, _), (10, _)] rfl ?_)
      refine F (J (C rfl (op_lds [_, _, _, _] (M30.at 0 rfl) rfl (D rfl) rfl) ?_))
      refine WS.st1 (M30.focus 4 rfl) [_, _, _, _] [_, _, _, _] rfl rfl rfl rfl rfl (D rfl) (D rfl) rfl rfl ?_
      intro h31 M32
      replace M32 : Mem _ _ ([(p1, _)] :: [(p26, _)] :: S23 :: [(p6, _)] :: [(t, _)] :: L) _ := M32
      refine C rfl rfl (C rfl rfl (G [(6, _), (7, _), (8, _)] rfl ?_))
      refine WC.ret (⟨[_, _, _], (res_cellN [_, _, _, _] rfl (M32.at 0 rfl) (D rfl) rfl (res_tmp rfl (res_tmp rfl res_nil))), ?_⟩)
      exact ⟨_, _, SetG T j8 { y9 with lf := y9.tt }, r49, _, _, true, 0, grow_set (List.getElem?_eq_some_iff.1 hy14).1, O24, rfl, hF49, .inr ⟨j8, y9, ⟨hy14, hi14, hm14⟩, rfl, fun q => by exfalso; omega, fun q e => ⟨rfl, rfl, ok49, hC49⟩, fun q e => absurd (u64_inj (by first | assumption | omega)) e⟩, (((((((M32.focus 0 rfl).drop).focus 0 rfl).drop).focus 2 rfl).focus 1 rfl).focus 2 rfl)⟩
     ·
      refine C rfl rfl (G [(6, _), (9, _), (37, _)] rfl ?_)
      refine WC.condF rfl (WC.skip (F (J (WS.opV (.agg #[(.int .u8 (0 : Int)), (.int .u64 (0 : Int)), (.string (bs ([]))), (.slice none 0 0)]) rfl rfl rfl ?_))))
      refine WS.st1 (M13.focus 2 rfl) [_, _, _, _] [_, _, _, _] rfl rfl rfl rfl rfl (D rfl) (D rfl) rfl rfl ?_
      intro h33 M34
      replace M34 : Mem _ _ ([(p1, _)] :: [(p6, _)] :: [(t, _)] :: L) _ := M34
      refine C rfl rfl (C rfl rfl (G [(6, _), (7, _), (8, _)] rfl ?_))
      refine WC.ret (⟨[_, _, _], (res_cellN [_, _, _, _] rfl (M34.at 0 rfl) (D rfl) rfl (res_tmp rfl (res_tmp rfl res_nil))), ?_⟩)
      exact ⟨_, _, SetG T j8 { y9 with lf := y9.tt }, zeroR, .slice none 0 0, [], false, 0, grow_set (List.getElem?_eq_some_iff.1 hy14).1, .nil, rfl, fitR0, .inr ⟨j8, y9, ⟨hy14, hi14, hm14⟩, rfl, fun q => by exfalso; omega, fun q e => by exfalso; first | omega | (subst e; omega), fun q e => ⟨rfl, rfl, rfl⟩⟩, (((M34.focus 0 rfl).drop).nils.focus 1 rfl)⟩
end Go.Proofs.Ytomaijljeacpjaa.Wt
namespace Go.Proofs.Ytomaijljeacpjaa.Wt
open Go Go.Proofs.Ytomaijljeacpjaa.Am Go.Proofs.Ytomaijljeacpjaa.IrAll
open Go.Proofs.Ytomaijljeacpjaa.Am.WS renaming op → C
open Go.Proofs.Ytomaijljeacpjaa.Am.WC renaming seq → D
open Go.Proofs.Ytomaijljeacpjaa.Am.WS renaming nil → F
open Go.Proofs.Ytomaijljeacpjaa.Am.WC renaming run → G
open Nat renaming le_of_ble_eq_true → J
set_option linter.unusedVariables false
set_option linter.unusedSimpArgs false
variable {h base : H} {L : List Seg} {R : List Nat}
def Alive (y : Ses) : Prop := y.lf.toNat ≠ 0
instance (y : Ses) : Decidable (Alive y) := by unfold Alive; infer_instance
def alive (l : List Ses) : List Ses := l.filter (fun y => decide (Alive y))
def dec1 (y : Ses) : Ses := { y with lf := y.lf - 1 }
def tickT (T : Tab) : Tab := ⟨alive (T.l.map dec1), T.la⟩
theorem sub1_u64 {x : UInt64} : Value.int .u64 (IntKind.u64.wrap ((x.toNat : Int) - 1)) = .int .u64 (((x - 1).toNat : Nat) : Int) := by
  congr 1
  rw [UInt64.toNat_sub, wu64]
  have := x.toNat_lt
  show _ = (((2 ^ 64 - 1 + x.toNat) % 2 ^ 64 : Nat) : Int)
  omega
theorem tick1_ran (W : Mem h h [] []) {y : Ses} : Cll tab0 33 [.agg (Ses.cells y).toArray] h (fun v h2 => v = .bool (!decide (Alive y)) ∧ Mem h h2 [] []) := by
  refine Cll.code rfl rfl ?_
  refine WC.env [(0, _)] rfl ?_
  refine D (G (WS.box W [_, _, _, _, _] rfl rfl rfl rfl ?_))
  intro p1 h2 M3
  refine C rfl rfl (F [(1, _)] rfl ?_)
  refine D (G (C rfl rfl (C rfl (op_ld (M3.at 0 rfl) rfl rfl) ?_)))
  refine WS.eqlN (a := (y.lf).toNat) (b := 0) rfl rfl rfl (fun e5 => ?_) (fun e5 => ?_)
  ·
   refine C rfl rfl (F [(2, _)] rfl ?_)
   refine WC.ret (⟨[_], (res_tmp rfl res_nil), ?_⟩)
   exact ⟨by rw [decide_eq_false (fun q => q e5)]; rfl, M3.bare.take 0⟩
  ·
   refine C rfl rfl (F [(2, _)] rfl ?_)
   refine WC.ret (⟨[_], (res_tmp rfl res_nil), ?_⟩)
   exact ⟨by rw [decide_eq_true (show Alive y from e5)]; rfl, M3.bare.take 0⟩
theorem idxT_ran (W : Mem h h [] []) {V : Value} {l : List Ses} (A : KSes.Sl h V l) (hl : l.length ≤ 1000000) : Cll tab0 49 [V, .func (.func 33) #[] #[]] h (fun v h2 => ((v = .int .i64 (-1) ∧ ∀ y ∈ l, Alive y) ∨ (∃ (j : Nat) (y : Ses), v = .int .i64 (j : Int) ∧ l[j]? = some y ∧ ¬ Alive y ∧ ∀ k z, k < j → l[k]? = some z → Alive z)) ∧ Mem h h2 [] []) := by
  refine Cll.code rfl rfl ?_
  refine WC.env [(0, _), (1, _)] rfl ?_
  refine D (G (C rfl rfl (F [(0, _), (1, _)] rfl ?_)))
  refine D (D (G (C rfl rfl (C rfl (op_lenVS A rfl) (C rfl rfl (F [(0, _), (1, _), (7, _), (8, _)] rfl ?_))))))
  refine WC.block ?_
  obtain ⟨L1, eL3, M2⟩ := Mem.name W.bare
  refine WC.loop (σ := Nat) (fun (n) => [(0, V), (1, (.func (.func 33) #[] #[])), (7, (.int .i64 (((l).length : Nat) : Int))), (8, (.int .i64 ((n : Nat) : Int)))]) (fun (n) hh => Mem h hh (L1) [] ∧ (∀ k z, k < n → l[k]? = some z → Alive z) ∧ n ≤ l.length) (fun (n) => l.length - n) (0) rfl ⟨M2, ?_⟩ ?_
  · exact ⟨fun k z q => by omega, by omega⟩
  ·rintro n h4 ⟨M5, ⟨hO, hi1⟩⟩
   replace eL3 := eL3.symm; subst eL3
   refine WC.env [(0, _), (1, _), (7, _), (8, _)] rfl ?_
   refine D (G (WS.lssN (a := n) (b := (l).length) rfl rfl rfl (fun e9 => ?_) (fun e9 => ?_)))
   ·
    refine F [(0, _), (1, _), (7, _), (8, _), (9, _)] rfl ?_
    refine D (WC.condT rfl (WC.skip (D (WC.block (D (G (C rfl rfl (C rfl rfl (F [(0, _), (1, _), (5, _), (7, _), (8, _)] rfl ?_)))))))))
    refine D (G (C rfl rfl (C rfl rfl (C rfl rfl ?_))))
    obtain ⟨y14, hy14⟩ : ∃ y, (l)[n]? = some y := ⟨_, List.getElem?_eq_getElem (show n < (l).length by first | omega | (simp only [List.length_drop, List.length_take, List.length_append, List.length_cons, List.length_nil, List.length_singleton]; omega) | (simp only [List.length_drop, List.length_take, List.length_append, List.length_cons, List.length_nil, List.length_singleton] at *; omega))⟩
    refine WS.iaVS A n hy14 rfl rfl rfl rfl ?_
    intro b14_ o14_ ha14
    refine C rfl (op_ldAt rfl (ha14.mono M5.sub) rfl) ?_
    refine WS.call rfl rfl rfl (tick1_ran M5.here (y := y14)) ?_
    rintro _ h6 ⟨rfl, N7⟩
    have M8 := M5.trans N7
    refine F [(0, _), (1, _), (5, _), (7, _), (8, _), (16, _)] rfl ?_
    cases hb1 : (!decide (Alive y14))
    ·
     refine WC.condF rfl (WC.skip (G (WS.opV (.int .i64 (((n + 1) : Nat) : Int)) rfl rfl (add_i64 (a := n) (b := 1) (by omega)) (C rfl rfl (F [(0, _), (1, _), (7, _), (8, _)] rfl ?_)))))
     refine ⟨n + 1, rfl, ⟨(M8.bare.take 0), ?_⟩, ?_⟩
     · exact ⟨fun k z q e => by rcases Nat.lt_or_ge k n with w | w; exact hO k z w e; (have : k = n := by omega); subst this; rw [hy14] at e; cases e; simpa using hb1, by omega⟩
     · simp only []; omega
    ·
     refine WC.condT rfl (D (G (C rfl rfl (C rfl rfl (F [(4, _)] rfl ?_)))))
     refine WC.ret (⟨[_], (res_tmp rfl res_nil), ?_⟩)
     exact ⟨.inr ⟨n, y14, rfl, hy14, by simpa using hb1, hO⟩, M8.bare.take 0⟩
   ·
    refine F [(0, _), (1, _), (7, _), (8, _), (9, _)] rfl ?_
    refine D (WC.condF rfl (WC.exit ?_))
    refine D (G (C rfl rfl (F [(4, _)] rfl ?_)))
    refine WC.ret (⟨[_], (res_tmp rfl res_nil), ?_⟩)
    exact ⟨.inl ⟨rfl, fun y hy => by obtain ⟨k, hk, rfl⟩ := List.mem_iff_getElem.1 hy; exact hO k _ (by omega) (List.getElem?_eq_getElem hk)⟩, M5.bare.take 0⟩
theorem alive_all {l : List Ses} (h : ∀ y ∈ l, Alive y) : alive l = l := List.filter_eq_self.2 (fun y hy => decide_eq_true (h y hy))
theorem alive_step {l : List Ses} {j : Nat} {y : Ses} (hy : l[j]? = some y) : alive (l.take (j + 1)) = alive (l.take j) ++ (if Alive y then [y] else []) := by
  rw [List.take_add_one, hy]
  unfold alive
  rw [List.filter_append]
  congr 1
  by_cases q : Alive y
  · rw [if_pos q]; simp [q]
  · rw [if_neg q]; simp [q]
theorem alive_len (l : List Ses) : (alive l).length ≤ l.length := List.length_filter_le ..
theorem set_take {α : Type} {q : List α} {i : Nat} {y : α} (h : i < q.length) : (q.set i y).take (i + 1) = q.take i ++ [y] := by
  rw [List.set_eq_take_append_cons_drop, if_pos h, List.take_append, List.take_of_length_le (by simp; omega), List.length_take, Nat.min_eq_left (by omega), show i + 1 - i = 1 by omega]; rfl
theorem set_drop {α : Type} {q : List α} {i j : Nat} {y : α} (h : i < j) : (q.set i y).drop j = q.drop j := by
  rw [List.drop_set]; rw [if_pos h]
set_option maxRecDepth 8000 in
theorem Del_ran {p : Nat} {l jk : List Ses} (M : Mem base h ([(p, ⟨KSes.flat (l ++ jk), 5, false⟩)] :: L) []) (hl : l.length ≤ 1000) : Cll tab0 32 [.slice (some ⟨p, 0, none⟩) l.length (2 * (l ++ jk).length), .func (.func 33) #[] #[]] h (fun v h2 => ∃ j2, v = .slice (some ⟨p, 0, none⟩) (alive l).length (2 * (alive l ++ j2).length) ∧ Mem base h2 ([(p, ⟨KSes.flat (alive l ++ j2), 5, false⟩)] :: L) []) := by
  refine Cll.code rfl rfl ?_
  refine WC.env [(0, _), (1, _)] rfl ?_
  refine D (G (C rfl rfl (F [(0, _), (1, _)] rfl ?_)))
  refine D (G (C rfl rfl (C rfl rfl ?_)))
  have hsl := Row.Grow.sl (Row.Grow.row (K := KSes) p l jk) (Mem.owni M 0 rfl)
  refine WS.call rfl rfl rfl (idxT_ran M.here hsl (by omega)) ?_
  rintro _ h1 ⟨(⟨rfl, hall⟩ | ⟨j0, y0, rfl, hj0, hna, hbe⟩), N2⟩
  ·
   have M4 := M.trans N2
   refine C rfl rfl (F [(0, _), (1, _), (5, _)] rfl ?_)
   refine D (D (G (C rfl rfl (WS.opV (.bool true) rfl rfl rfl (F [(0, _), (1, _), (5, _), (12, _)] rfl ?_)))))
   refine WC.condT rfl (D (G (C rfl rfl (C rfl rfl (F [(4, _)] rfl ?_)))))
   refine WC.ret (⟨[_], (res_tmp rfl res_nil), ?_⟩)
   rw [alive_all hall]
   exact ⟨jk, rfl, M4⟩
  ·
   have M5 := M.trans N2
   have hj0l := (List.getElem?_eq_some_iff.1 hj0).1
   refine C rfl rfl (F [(0, _), (1, _), (5, _)] rfl ?_)
   refine D (D (G (C rfl rfl ?_)))
   refine WS.eql (a := ((j0 : Nat) : Int)) (b := (-1 : Int)) rfl rfl rfl (fun e12 => ?_) (fun e12 => ?_)
   ·
    exact absurd e12 (by omega)
   ·
    refine F [(0, _), (1, _), (5, _), (12, _)] rfl ?_
    refine WC.condF rfl (WC.skip (D (D (G (C rfl rfl (WS.opV (.int .i64 (((j0 + 1) : Nat) : Int)) rfl rfl (add_i64 (a := j0) (b := 1) (by omega)) (C rfl rfl (F [(0, _), (1, _), (5, _), (6, _)] rfl ?_))))))))
    refine WC.block ?_
    obtain ⟨L6, eL8, M7⟩ := Mem.name1 (M5.bare.focus 0 rfl)
    refine WC.loop (σ := List Ses × Nat × Nat) (fun ((q, i, j)) => [(0, (.slice (some ⟨p, 0, none⟩) l.length (2 * (l ++ jk).length))), (1, (.func (.func 33) #[] #[])), (5, (.int .i64 ((i : Nat) : Int))), (6, (.int .i64 ((j : Nat) : Int)))]) (fun ((q, i, j)) hh => Mem base hh ([(p, ⟨KSes.flat q, 5, false⟩)] :: L6) [] ∧ q.length = (l ++ jk).length ∧ i < j ∧ j ≤ l.length ∧ q.take i = alive (l.take j) ∧ q.drop j = (l ++ jk).drop j) (fun ((q, i, j)) => l.length - j) ((l ++ jk), j0, j0 + 1) rfl ⟨(by exact M7), ?_⟩ ?_
    · refine ⟨rfl, by omega, by omega, ?_, rfl⟩; rw [alive_step hj0, if_neg hna, List.append_nil, List.take_append_of_le_length (by omega), alive_all (fun y hy => by obtain ⟨k, hk, e⟩ := List.mem_iff_getElem.1 hy; rw [List.length_take] at hk; rw [List.getElem_take] at e; exact hbe k y (by omega) (by rw [← e]; exact List.getElem?_eq_getElem (by omega)))]
    ·rintro ⟨q, i, j⟩ h9 ⟨M10, ⟨hql, hij, hjl, hT, hD⟩⟩
     replace eL8 := eL8.symm; subst eL8
     refine WC.env [(0, _), (1, _), (5, _), (6, _)] rfl ?_
     have hqt : q.length = l.length + jk.length := by rw [hql, List.length_append]
     refine D (D (G (C rfl rfl (C rfl rfl (C rfl rfl ?_)))))
     refine WS.lssN (a := j) (b := l.length) rfl rfl rfl (fun e19 => ?_) (fun e19 => ?_)
     ·
      refine F [(0, _), (1, _), (5, _), (6, _), (19, _)] rfl ?_
      refine WC.condT rfl (WC.skip (D (WC.block (D (G (C rfl rfl (C rfl rfl ?_)))))))
      obtain ⟨y24, hy24⟩ : ∃ y, (q)[j]? = some y := ⟨_, List.getElem?_eq_getElem (show j < (q).length by omega)⟩
      have hyl : l[j]? = some y24 := by have e1 := congrArg (fun z => z[0]?) hD; simp only [List.getElem?_drop, Nat.add_zero] at e1; rw [hy24, List.getElem?_append_left (by omega)] at e1; exact e1.symm
      refine C rfl (op_iaV2 j rfl rfl (by omega)) (C rfl (op_ldN rfl (Row.lds (K := KSes) (M10.at 0 rfl) hy24)) ?_)
      refine WS.new M10 rfl ?_
      intro p11 h12 M13
      refine WS.st1 (M13.focus 0 rfl) [_, _, _, _, _] [_, _, _, _, _] rfl rfl rfl rfl rfl (J rfl) (J rfl) rfl rfl ?_
      intro h14 M15
      replace M15 : Mem _ _ ([(p11, _)] :: [(p, _)] :: L) _ := M15
      refine F [(0, _), (1, _), (5, _), (6, _), (7, _)] rfl ?_
      refine D (G (C rfl rfl (C rfl (op_lds [_, _, _, _, _] (M15.at 0 rfl) rfl (J rfl) rfl) ?_)))
      refine WS.call rfl rfl rfl (tick1_ran M15.here (y := y24)) ?_
      rintro _ h16 ⟨rfl, N17⟩
      have M18 := M15.trans N17
      cases hb1 : (!decide (Alive y24))
      ·
       refine WS.opV (.bool true) rfl rfl rfl (F [(0, _), (1, _), (5, _), (6, _), (7, _), (29, _)] rfl ?_)
       refine WC.condT rfl (D (G (C rfl rfl (C rfl rfl (C rfl (op_lds [_, _, _, _, _] (M18.at 0 rfl) rfl (J rfl) rfl) (C rfl (op_iaV2 i rfl rfl (by omega)) ?_))))))
       refine WS.stN (K := KSes) (y' := y24) (M18.focus 1 rfl) (show i < q.length by omega) rfl rfl rfl rfl rfl ?_
       intro h19 M20
       replace M20 : Mem _ _ ([(p, _)] :: [(p11, _)] :: L) _ := M20
       refine F [(0, _), (1, _), (5, _), (6, _)] rfl ?_
       refine G (C rfl rfl (WS.opV (.int .i64 (((i + 1) : Nat) : Int)) rfl rfl (add_i64 (a := i) (b := 1) (by omega)) (C rfl rfl (F [(0, _), (1, _), (5, _), (6, _)] rfl ?_))))
       refine G (C rfl rfl (WS.opV (.int .i64 (((j + 1) : Nat) : Int)) rfl rfl (add_i64 (a := j) (b := 1) (by omega)) (C rfl rfl (F [(0, _), (1, _), (5, _), (6, _)] rfl ?_))))
       refine ⟨((q.set i y24), (i + 1), j + 1), rfl, ⟨(M20.focus 1 rfl).drop, ?_⟩, ?_⟩
       · exact ⟨by rw [List.length_set]; exact hql, by omega, by omega, by rw [set_take (by omega), alive_step hyl, if_pos (by simpa using hb1), hT], by rw [set_drop (by omega), ← List.drop_drop, hD, List.drop_drop]⟩
       · simp only []; omega
      ·
       refine WS.opV (.bool false) rfl rfl rfl (F [(0, _), (1, _), (5, _), (6, _), (7, _), (29, _)] rfl ?_)
       refine WC.condF rfl (WC.skip (G (C rfl rfl (WS.opV (.int .i64 (((j + 1) : Nat) : Int)) rfl rfl (add_i64 (a := j) (b := 1) (by omega)) (C rfl rfl (F [(0, _), (1, _), (5, _), (6, _)] rfl ?_))))))
       refine ⟨(q, i, j + 1), rfl, ⟨(M18.focus 0 rfl).drop, ?_⟩, ?_⟩
       · exact ⟨hql, by omega, by omega, by rw [alive_step hyl, if_neg (by simpa using hb1), List.append_nil, hT], by rw [← List.drop_drop, hD, List.drop_drop]⟩
       · simp only []; omega
     ·
      refine F [(0, _), (1, _), (5, _), (6, _), (19, _)] rfl ?_
      refine WC.condF rfl (WC.exit ?_)
      refine D (G (C rfl rfl (C rfl rfl ?_)))
      have hj : j = l.length := by omega
      have hsp : q = q.take i ++ (q.drop i).take (l.length - i) ++ q.drop l.length := by rw [← List.take_add, show i + (l.length - i) = l.length by omega, List.take_append_drop]
      have htk : (q.take i).length = i := by rw [List.length_take]; omega
      have hdk : ((q.drop i).take (l.length - i)).length = l.length - i := by rw [List.length_take, List.length_drop]; omega
      have M21 := M10
      rw [hsp] at M21
      replace M21 : Mem _ _ ([(p, _)] :: L) _ := M21
      have hcap : (2 * (l ++ jk).length) = 2 * ((q.take i ++ (q.drop i).take (l.length - i)) ++ q.drop l.length).length := by rw [← hsp, hql]
      have hnn : l.length = (q.take i ++ (q.drop i).take (l.length - i)).length := by rw [List.length_append]; omega
      refine C rfl (op_slVG0 (K := KSes) (l := q.take i ++ (q.drop i).take (l.length - i)) (j := q.drop l.length) i rfl (M21.at 0 rfl) (by rw [← hcap, ← hnn]; rfl) rfl (by omega)) ?_
      refine WS.clrG (K := KSes) (u := q.take i) (w := (q.drop i).take (l.length - i)) (j := q.drop l.length) (y0 := ⟨0, 0, 0, 0, []⟩) M21 rfl rfl (by rw [htk, hdk]; show some _ = some _; congr 2; rw [← hnn]) ?_
      intro h22 M23
      replace M23 : Mem _ _ ([(p, _)] :: L) _ := M23
      refine F [(0, _), (5, _)] rfl ?_
      refine D (G (C rfl rfl (C rfl rfl ?_)))
      rw [hdk, List.append_assoc, hT] at M23
      rw [hj, List.take_of_length_le (Nat.le_refl _)] at M23 hT
      have hia : i = (alive l).length := by rw [← hT, htk]
      have hc2 : 2 * (l ++ jk).length = 2 * (alive l ++ (List.replicate (l.length - i) (⟨0, 0, 0, 0, []⟩ : Ses) ++ q.drop l.length)).length := by rw [← hql]; simp only [List.length_append, List.length_replicate, List.length_drop]; omega
      refine WS.opV (.slice (some ⟨p, 0, none⟩) i (2 * (l ++ jk).length)) rfl (op_slVX (m := (l ++ jk).length) i (by rw [List.length_append]; omega) rfl rfl (M23.at 0 rfl) rfl) rfl ?_
      refine C rfl rfl (F [(4, _)] rfl ?_)
      refine WC.ret (⟨[_], (res_tmp rfl res_nil), ?_⟩)
      exact ⟨List.replicate (l.length - i) (⟨0, 0, 0, 0, []⟩ : Ses) ++ q.drop l.length, by rw [← hc2, ← hia]; rfl, M23⟩
theorem Del0_ran (W : Mem h h [] []) : Cll tab0 32 [.slice none 0 0, .func (.func 33) #[] #[]] h (fun v h2 => v = .slice none 0 0 ∧ Mem h h2 [] []) := by
  refine Cll.code rfl rfl ?_
  refine WC.env [(0, _), (1, _)] rfl ?_
  refine D (G (C rfl rfl (F [(0, _), (1, _)] rfl ?_)))
  refine D (G (C rfl rfl (C rfl rfl ?_)))
  refine WS.call rfl rfl rfl (idxT_ran W.here (l := []) .nil (by simp)) ?_
  rintro _ h1 ⟨(⟨rfl, hall⟩ | ⟨j0, y0, rfl, hj0, hna, hbe⟩), N2⟩
  ·
   have M4 := W.trans N2
   refine C rfl rfl (F [(0, _), (1, _), (5, _)] rfl ?_)
   refine D (D (G (C rfl rfl (WS.opV (.bool true) rfl rfl rfl (F [(0, _), (1, _), (5, _), (12, _)] rfl ?_)))))
   refine WC.condT rfl (D (G (C rfl rfl (C rfl rfl (F [(4, _)] rfl ?_)))))
   refine WC.ret (⟨[_], (res_tmp rfl res_nil), ?_⟩)
   exact ⟨rfl, M4.bare.take 0⟩
  ·
   simp at hj0
theorem New_ran (W : Mem h h [] []) : Cll tab0 11 [] h (fun v h2 => ∃ p, v = .pointer (some ⟨p, 0, none⟩) ∧ Mem h h2 [[(p, ⟨[.slice none 0 0, .int .u64 (((0 : UInt64).toNat : Nat) : Int)], 0, false⟩)]] []) := by
  refine Cll.code rfl rfl ?_
  refine WC.env [] rfl ?_
  refine D (G (C rfl rfl (F [] rfl ?_)))
  refine D (G (WS.opV (.agg #[(.slice none 0 0), (.int .u64 (0 : Int))]) rfl rfl rfl ?_))
  refine WS.box W [_, _] rfl rfl rfl rfl ?_
  intro p1 h2 M3
  refine C rfl rfl (F [(0, _)] rfl ?_)
  refine WC.ret (⟨[_], (res_tmp rfl res_nil), ?_⟩)
  exact ⟨_, rfl, ((M3.bare.focus 0 rfl).take 1)⟩
theorem tick_app {l : List Ses} {i : Nat} {y : Ses} (hy : l[i]? = some y) : l.take (i + 1) = l.take i ++ [y] := by rw [List.take_add_one, hy]; rfl
set_option maxRecDepth 8000 in
theorem Tick_ran {t : Nat} {T : Tab} {V : Value} {S : Seg} (O : KSes.Grow V T.l S) (M : Mem base h (S :: [(t, ⟨[V, .int .u64 ((T.la.toNat : Nat) : Int)], 0, false⟩)] :: L) []) (hl : T.l.length ≤ 1000) : Cll tab0 16 [.pointer (some ⟨t, 0, none⟩)] h (fun v h2 => ∃ V2 S2, KSes.Grow V2 (tickT T).l S2 ∧ v = .tuple #[] ∧ Mem base h2 (S2 :: [(t, ⟨[V2, .int .u64 (((tickT T).la.toNat : Nat) : Int)], 0, false⟩)] :: L) []) := by
  obtain ⟨l, la⟩ := T
  simp only at O M hl
  obtain (⟨rfl, rfl, rfl⟩ | ⟨p, jk, rfl, rfl⟩) := O.cases'
  · skip
    refine Cll.code rfl rfl ?_
    refine WC.env [(0, _)] rfl ?_
    refine D (D (G (C rfl rfl (WS.opV (.bool false) rfl rfl rfl (F [(0, _), (4, _)] rfl ?_)))))
    refine WC.condF rfl (WC.skip (D (D (G (C rfl rfl (C rfl rfl (C rfl rfl (C rfl (op_ld (M.at 1 rfl) rfl rfl) (C rfl rfl (C rfl rfl (F [(0, _), (9, _), (10, _)] rfl ?_)))))))))))
    refine WC.block (WC.unroll [(0, _), (9, _), (10, _)] rfl ?_)
    refine D (G (WS.opV (.bool false) rfl rfl rfl (F [(0, _), (9, _), (10, _), (11, _)] rfl ?_)))
    refine D (WC.condF rfl (WC.exit ?_))
    refine G (C rfl rfl (C rfl rfl (C rfl rfl (C rfl rfl (C rfl (op_ld (M.at 1 rfl) rfl rfl) ?_)))))
    refine WS.call rfl rfl rfl (Del0_ran M.here) ?_
    rintro _ h1 ⟨rfl, N2⟩
    have M3 := M.trans N2
    refine C rfl rfl (C rfl rfl ?_)
    refine WS.st1 (M3.focus 1 rfl) [_] [_, _] rfl rfl rfl rfl rfl (J rfl) (J rfl) rfl rfl ?_
    intro h4 M5
    replace M5 : Mem _ _ ([(t, _)] :: [] :: L) _ := M5
    refine F [] rfl ?_
    refine ⟨[], res_nil, ?_⟩
    exact ⟨.slice none 0 0, [], .nil, rfl, ((M5.focus 0 rfl).focus 1 rfl)⟩
  · replace M : Mem base h ([(p, ⟨KSes.flat (l ++ jk), 5, false⟩)] :: [(t, ⟨[.slice (some ⟨p, 0, none⟩) l.length (2 * (l ++ jk).length), .int .u64 ((la.toNat : Nat) : Int)], 0, false⟩)] :: L) [] := M
    refine Cll.code rfl rfl ?_
    refine WC.env [(0, _)] rfl ?_
    refine D (D (G (C rfl rfl (WS.opV (.bool false) rfl rfl rfl (F [(0, _), (4, _)] rfl ?_)))))
    refine WC.condF rfl (WC.skip (D (D (G (C rfl rfl (C rfl rfl (C rfl rfl (C rfl (op_ld (M.at 1 rfl) rfl rfl) (C rfl rfl (C rfl rfl (F [(0, _), (9, _), (10, _)] rfl ?_)))))))))))
    refine WC.block ?_
    obtain ⟨L1, eL3, M2⟩ := Mem.name1 (M.bare.focus 0 rfl)
    refine WC.loop (σ := Nat) (fun (i) => [(0, (.pointer (some ⟨t, 0, none⟩))), (9, (.int .i64 ((l.length : Nat) : Int))), (10, (.int .i64 ((i : Nat) : Int)))]) (fun (i) hh => Mem base hh ([(p, ⟨KSes.flat ((l.take i).map dec1 ++ (l.drop i ++ jk)), 5, false⟩)] :: L1) [] ∧ i ≤ l.length) (fun (i) => l.length - i) (0) rfl ⟨(by (simpa using M2)), ?_⟩ ?_
    · omega
    ·rintro i h4 ⟨M5, hil⟩
     replace eL3 := eL3.symm; subst eL3
     refine WC.env [(0, _), (9, _), (10, _)] rfl ?_
     have hqt : ((l.take i).map dec1).length = i := by rw [List.length_map, List.length_take]; omega
     refine D (G (WS.lssN (a := i) (b := l.length) rfl rfl rfl (fun e11 => ?_) (fun e11 => ?_)))
     ·
      refine F [(0, _), (9, _), (10, _), (11, _)] rfl ?_
      refine D (WC.condT rfl (WC.skip (D (WC.block (D (G (C rfl rfl (C rfl rfl (F [(0, _), (2, _), (9, _), (10, _)] rfl ?_)))))))))
      refine G (C rfl rfl (C rfl rfl (C rfl rfl (C rfl (op_ld (M5.at 1 rfl) rfl rfl) (C rfl rfl ?_)))))
      obtain ⟨y18, hy18⟩ : ∃ y, (((l.take i).map dec1 ++ (l.drop i ++ jk)))[i]? = some y := ⟨_, List.getElem?_eq_getElem (show i < (((l.take i).map dec1 ++ (l.drop i ++ jk))).length by first | omega | (simp only [List.length_append, List.length_map, List.length_take, List.length_drop]; omega))⟩
      have hyl : l[i]? = some y18 := by rw [List.getElem?_append_right (by omega), hqt, Nat.sub_self, List.getElem?_append_left (by rw [List.length_drop]; omega), List.getElem?_drop, Nat.add_zero] at hy18; exact hy18
      have hset : ((l.take i).map dec1 ++ (l.drop i ++ jk)).set i { y18 with lf := y18.lf - 1 } = ((l.take (i + 1)).map dec1 ++ (l.drop (i + 1) ++ jk)) := by rw [tick_app hyl, List.set_append_right _ _ (by omega), hqt, Nat.sub_self, List.map_append, List.drop_eq_getElem_cons (show i < l.length by omega), show l[i]'(by omega) = y18 from (List.getElem?_eq_some_iff.1 hyl).2]; simp [dec1]
      refine C rfl (op_iaV2 i rfl rfl (by first | omega | (simp only [List.length_append, List.length_map, List.length_take, List.length_drop]; omega))) (C rfl rfl (C rfl (op_ldH rfl (Row.ld (K := KSes) (k := 2) (M5.at 0 rfl) hy18 rfl)) (WS.opV (.int .u64 (((y18.lf - 1).toNat : Nat) : Int)) rfl rfl (sub1_u64 (x := y18.lf)) (C rfl (op_iaV2 i rfl rfl (by omega)) (C rfl rfl ?_)))))
      refine WS.stE (K := KSes) (y' := { y18 with lf := (y18.lf - 1) }) (M5.focus 0 rfl) hy18 (by decide) rfl rfl rfl rfl rfl rfl ?_
      intro h6 M7
      replace M7 : Mem _ _ ([(p, _)] :: [(t, _)] :: L) _ := M7
      have hye8 : (((l.take i).map dec1 ++ (l.drop i ++ jk)).set i { y18 with lf := (y18.lf - 1) })[i]? = some ({ y18 with lf := (y18.lf - 1) } : Ses) := List.getElem?_set_self (List.getElem?_eq_some_iff.1 hy18).1
      refine F [(0, _), (9, _), (10, _)] rfl ?_
      refine G (WS.opV (.int .i64 (((i + 1) : Nat) : Int)) rfl rfl (add_i64 (a := i) (b := 1) (by omega)) (C rfl rfl (F [(0, _), (9, _), (10, _)] rfl ?_)))
      refine ⟨i + 1, rfl, ⟨(by have q := M7; rw [hset] at q; exact q), ?_⟩, ?_⟩
      · omega
      · simp only []; omega
     ·
      refine F [(0, _), (9, _), (10, _), (11, _)] rfl ?_
      refine D (WC.condF rfl (WC.exit ?_))
      refine G (C rfl rfl (C rfl rfl (C rfl rfl (C rfl rfl (C rfl (op_ld (M5.at 1 rfl) rfl rfl) ?_)))))
      have hil2 : i = l.length := by omega
      have M11 := (M5.focus 0 rfl)
      rw [hil2, List.take_of_length_le (Nat.le_refl _), List.drop_of_length_le (Nat.le_refl _), List.nil_append] at M11
      have hdl := Del_ran (l := l.map dec1) (jk := jk) M11 (by rw [List.length_map]; omega)
      rw [List.length_map, show (l.map dec1 ++ jk).length = (l ++ jk).length by simp] at hdl
      refine WS.call rfl rfl rfl hdl ?_
      rintro _ h9 ⟨j2, rfl, M10⟩
      replace M10 : Mem _ _ ([(p, _)] :: [(t, _)] :: L) _ := M10
      refine C rfl rfl (C rfl rfl ?_)
      refine WS.st1 (M10.focus 1 rfl) [_] [_, _] rfl rfl rfl rfl rfl (J rfl) (J rfl) rfl rfl ?_
      intro h12 M13
      replace M13 : Mem _ _ ([(t, _)] :: [(p, _)] :: L) _ := M13
      refine F [] rfl ?_
      refine ⟨[], res_nil, ?_⟩
      exact ⟨_, _, Row.Grow.row p (alive (l.map dec1)) j2, rfl, ((M13.focus 0 rfl).focus 1 rfl)⟩
end Go.Proofs.Ytomaijljeacpjaa.Wt
namespace Go.Proofs.Ytomaijljeacpjaa.Wt
open Go Go.Proofs.Ytomaijljeacpjaa.Am Go.Proofs.Ytomaijljeacpjaa.IrAll
set_option linter.unusedVariables false
set_option linter.unusedSimpArgs false
variable {h base : H} {L : List Seg} {R : List Nat}
theorem set_self {α : Type} {l : List α} {i : Nat} {y : α} (hy : l[i]? = some y) : l.set i y = l := by
  obtain ⟨h, rfl⟩ := List.getElem?_eq_some_iff.1 hy
  exact List.set_getElem_self h
def upF (i : UInt64) (f : Ses → Ses) : List Ses → List Ses
  | [] => []
  | y :: l => if y.id = i then f y :: l else y :: upF i f l
theorem upF_no {i : UInt64} {f : Ses → Ses} : ∀ {l : List Ses}, NoId l i → upF i f l = l := by
  intro l
  induction l with
  | nil => intro _; rfl
  | cons y l ih => intro h; rw [upF, if_neg (h y (List.mem_cons_self ..)), ih (fun z hz => h z (List.mem_cons_of_mem _ hz))]
theorem upF_at {i : UInt64} {f : Ses → Ses} : ∀ {l : List Ses} {j : Nat} {y : Ses}, IsAt l i j y → upF i f l = l.set j (f y) := by
  intro l
  induction l with
  | nil => intro j y h; have := h.1; simp at this
  | cons x l ih =>
    intro j y h
    obtain ⟨h1, h2, h3⟩ := h
    cases j with
    | zero => simp at h1; subst h1; rw [upF, if_pos h2]; rfl
    | succ j =>
      rw [upF, if_neg (h3 0 x (by omega) rfl), ih ⟨by simpa using h1, h2, fun k z hk hz => h3 (k + 1) z (by omega) (by simpa using hz)⟩]; rfl
def keepF (sq : UInt64) (k : List UInt8) (y : Ses) : Ses := if y.sq.toNat < sq.toNat then { y with sq := sq, kp := k } else y
def keepT (T : Tab) (i sq : UInt64) (k : List UInt8) : Tab := ⟨upF i (keepF sq k) T.l, T.la⟩
set_option maxRecDepth 8000 in
theorem Keep_ran {t : Nat} {T : Tab} {V Vr : Value} {S : Seg} {i sq : UInt64} {r : Res} (O : KSes.Grow V T.l S) (M : Mem base h (S :: [(t, ⟨[V, .int .u64 ((T.la.toNat : Nat) : Int)], 0, false⟩)] :: L) []) (A : KRrow.Sl base Vr r.rs) (hf : FitRes r) (hl : T.l.length ≤ 1000) : Cll tab0 15 [.pointer (some ⟨t, 0, none⟩), .int .u64 ((i.toNat : Nat) : Int), .int .u64 ((sq.toNat : Nat) : Int), r.val Vr] h (fun v h2 => ∃ V2 S2, KSes.Grow V2 (keepT T i sq (encR r)).l S2 ∧ v = .tuple #[] ∧ Mem base h2 (S2 :: [(t, ⟨[V2, .int .u64 (((keepT T i sq (encR r)).la.toNat : Nat) : Int)], 0, false⟩)] :: L) []) := by
  obtain ⟨Pr, nr, rfl⟩ := A.shape
  refine Cll.code rfl rfl ?_
  refine WC.env [(0, _), (1, _), (2, _), (3, _)] rfl ?_
  refine WC.seq (WC.run (WS.box M [_, _, _, _] rfl rfl rfl rfl ?_))
  intro p1 h2 M3
  refine WS.nil [(0, _), (1, _), (2, _), (7, _)] rfl ?_
  refine WC.seq (WC.run (WS.op rfl rfl (WS.op rfl rfl ?_)))
  refine WS.call rfl rfl rfl (find_ran (T := T) (i := i) O ((M3.focus 2 rfl).focus 2 rfl) (by omega)) ?_
  rintro _ h4 (⟨rfl, hnf11, M5⟩ | ⟨p6, jk7, j8, y9, hV11, hS11, rfl, hy11, hi11, hm11, M5⟩)
  ·
   replace M5 : Mem _ _ (S :: [(t, _)] :: [(p1, _)] :: L) _ := M5
   refine WS.op rfl rfl (WS.nil [(2, _), (7, _), (8, _)] rfl ?_)
   refine WC.seq (WC.run (WS.op rfl rfl (WS.opV (.bool false) rfl rfl rfl (WS.op rfl rfl (WS.off rfl (WS.off rfl (WS.off rfl (WS.off rfl (WS.off rfl (WS.off rfl (WS.op rfl rfl ?_)))))))))))
   refine WS.nil [(2, _), (7, _), (8, _), (21, _)] rfl ?_
   refine WC.condF rfl (WC.skip (⟨[], res_nil, ?_⟩))
   rw [show keepT T i sq (encR r) = T by unfold keepT; rw [upF_no hnf11]]
   exact ⟨_, _, O, rfl, (M5.focus 2 rfl).drop⟩
  ·
   subst hV11 hS11
   replace M5 : Mem _ _ ([(p6, _)] :: [(t, _)] :: [(p1, _)] :: L) _ := M5
   have hz11 : ((T.l ++ jk7))[j8]? = some y9 := by rw [List.getElem?_append_left (List.getElem?_eq_some_iff.1 hy11).1]; exact hy11
   refine WS.op rfl rfl (WS.nil [(2, _), (7, _), (8, _)] rfl ?_)
   refine WC.seq (WC.run (WS.op rfl rfl (WS.opV (.bool true) rfl rfl rfl (WS.op rfl rfl (WS.op rfl rfl (WS.op rfl rfl (WS.op rfl rfl (WS.op rfl rfl (WS.op rfl (op_ldH rfl (Row.ld (K := KSes) (k := 3) (M5.at 0 rfl) hz11 rfl)) ?_)))))))))
   refine WS.gtrN (a := (sq).toNat) (b := (y9.sq).toNat) rfl rfl rfl (fun e20 => ?_) (fun e20 => ?_)
   ·
    refine WS.op rfl rfl (WS.nil [(2, _), (7, _), (8, _), (21, _)] rfl ?_)
    refine WC.condT rfl (WC.run (WS.op rfl rfl (WS.op rfl rfl (WS.op rfl rfl (WS.op rfl (op_lds [_, _, _, _] (M5.at 2 rfl) rfl (Nat.le_of_ble_eq_true rfl) rfl) ?_)))))
    refine WS.call rfl rfl rfl (WriteR_ran M5.here (r := r) (A.mono M5.sub) (by exact hf)) ?_
    rintro _ h10 ⟨rfl, N11⟩
    have M12 := M5.trans N11
    refine WS.op rfl rfl (WS.op rfl rfl ?_)
    refine WS.stE (K := KSes) (y' := { y9 with sq := sq }) (M12.focus 0 rfl) hz11 (by decide) rfl rfl rfl rfl rfl rfl ?_
    intro h13 M14
    replace M14 : Mem _ _ ([(p6, _)] :: [(t, _)] :: [(p1, _)] :: L) _ := M14
    have hye15 : ((T.l ++ jk7).set j8 { y9 with sq := sq })[j8]? = some ({ y9 with sq := sq } : Ses) := List.getElem?_set_self (List.getElem?_eq_some_iff.1 hz11).1
    refine WS.op rfl rfl (WS.op rfl rfl ?_)
    refine WS.stE (K := KSes) (y' := { ({ y9 with sq := sq } : Ses) with kp := (encR r) }) (M14.focus 0 rfl) hye15 (by decide) rfl rfl rfl rfl rfl rfl ?_
    intro h16 M17
    replace M17 : Mem _ _ ([(p6, _)] :: [(t, _)] :: [(p1, _)] :: L) _ := M17
    have hye18 : (((T.l ++ jk7).set j8 { y9 with sq := sq }).set j8 { ({ y9 with sq := sq } : Ses) with kp := (encR r) })[j8]? = some ({ ({ y9 with sq := sq } : Ses) with kp := (encR r) } : Ses) := List.getElem?_set_self (List.getElem?_eq_some_iff.1 hye15).1
    refine WS.nil [] rfl ?_
    refine ⟨[], res_nil, ?_⟩
    rw [show keepT T i sq (encR r) = SetG T j8 { y9 with sq := sq, kp := encR r } by unfold keepT; rw [upF_at ⟨hy11, hi11, hm11⟩]; unfold keepF; rw [if_pos (by omega)]; rfl]
    have q := (M17.focus 2 rfl).drop
    rw [List.set_set] at q
    exact ⟨_, _, grow_set (List.getElem?_eq_some_iff.1 hy11).1, rfl, q⟩
   ·
    refine WS.op rfl rfl (WS.nil [(2, _), (7, _), (8, _), (21, _)] rfl ?_)
    refine WC.condF rfl (WC.skip (⟨[], res_nil, ?_⟩))
    rw [show keepT T i sq (encR r) = T by unfold keepT; rw [upF_at ⟨hy11, hi11, hm11⟩]; unfold keepF; rw [if_neg (by omega)]; rw [set_self hy11]]
    exact ⟨_, _, Row.Grow.row (K := KSes) p6 T.l jk7, rfl, (M5.focus 2 rfl).drop⟩
def keptOf (y : Ses) : List UInt8 := if y.sq.toNat = 0 then encR zeroR else y.kp
end Go.Proofs.Ytomaijljeacpjaa.Wt
namespace Go.Proofs.Ytomaijljeacpjaa.Wt
open Go Go.Proofs.Ytomaijljeacpjaa.Am Go.Proofs.Ytomaijljeacpjaa.IrAll
set_option linter.unusedVariables false
set_option linter.unusedSimpArgs false
structure RSes where
  id : UInt64
  tt : UInt64
  lf : UInt64
  sq : UInt64
  rc : UInt8
  rn : UInt64
  rv : List UInt8
  rr : List Rrow
  rrp : Option Addr × Nat
variable {h base : H} {L : List Seg} {R : List Nat}
def RSes.res (y : RSes) : Res := ⟨y.rc, y.rn, y.rv, y.rr⟩
def RSes.sv (y : RSes) : Value := .slice y.rrp.1 y.rr.length y.rrp.2
structure RTab where
  l : List RSes
  la : UInt64
theorem take_snocA {α : Type} {l : List α} {i : Nat} {y : α} (h : l[i]? = some y) : l.take (i + 1) = l.take i ++ [y] := by rw [List.take_add_one, h]; rfl
end Go.Proofs.Ytomaijljeacpjaa.Wt
namespace Go.Proofs.Ytomaijljeacpjaa.Wt
open Go Go.Proofs.Ytomaijljeacpjaa.Am Go.Proofs.Ytomaijljeacpjaa.IrAll
set_option linter.unusedVariables false
set_option linter.unusedSimpArgs false
def normS (y : Ses) : Ses := { y with kp := keptOf y }
def norm (T : Tab) : Tab := ⟨T.l.map normS, T.la⟩
def lookT (T : Tab) (i : UInt64) : Tab := ⟨upF i (fun y => { y with lf := y.tt }) T.l, T.la⟩
open Classical in
noncomputable def decR (k : List UInt8) : Res := if h : ∃ r, FitRes r ∧ encR r = k then Classical.choose h else zeroR
theorem encR_inj {a b : Res} (ha : FitRes a) (hb : FitRes b) (h : encR a = encR b) : a = b := (encR_pf a b [] [] ha hb (by rw [h])).1
theorem decR_enc {r : Res} (h : FitRes r) : decR (encR r) = r := by
  have hx : ∃ r0, FitRes r0 ∧ encR r0 = encR r := ⟨r, h, rfl⟩
  unfold decR; rw [dif_pos hx]
  exact encR_inj (Classical.choose_spec hx).1 h (Classical.choose_spec hx).2
theorem decR_rd {k : List UInt8} {r : Res} {ok : Bool} (hf : FitRes r) (h : RdR k r ok) : r = decR k := by
  cases ok with
  | true => rw [← h.1 rfl, decR_enc hf]
  | false =>
    obtain ⟨h1, h2⟩ := h.2 rfl
    unfold decR; rw [dif_neg (fun ⟨r0, a, b⟩ => h2 r0 a b)]; exact h1
def firstOf (i : UInt64) (l : List Ses) : Option Ses := l.find? (fun y => decide (y.id = i))
noncomputable def lookO (o : Option Ses) (sq : UInt64) : Res × Bool × UInt8 := match o with
  | none => (zeroR, false, 5)
  | some y => if sq.toNat = 0 ∨ sq.toNat < y.sq.toNat then (zeroR, false, 6) else if sq = y.sq then (decR y.kp, true, 0) else (zeroR, false, 0)
noncomputable def lookR (T : Tab) (i sq : UInt64) : Res × Bool × UInt8 := lookO (firstOf i T.l) sq
theorem firstOf_no {i : UInt64} {l : List Ses} (h : NoId l i) : firstOf i l = none := by
  unfold firstOf; rw [List.find?_eq_none]; intro y hy; simpa using h y hy
theorem firstOf_at {i : UInt64} : ∀ {l : List Ses} {j : Nat} {y : Ses}, IsAt l i j y → firstOf i l = some y := by
  intro l
  induction l with
  | nil => intro j y h; have := h.1; simp at this
  | cons x l ih =>
    intro j y h
    obtain ⟨h1, h2, h3⟩ := h
    unfold firstOf
    cases j with
    | zero => simp at h1; subst h1; rw [List.find?_cons_of_pos (by simpa using h2)]
    | succ j =>
      rw [List.find?_cons_of_neg (by simpa using h3 0 x (by omega) rfl)]
      exact ih ⟨by simpa using h1, h2, fun k z hk hz => h3 (k + 1) z (by omega) (by simpa using hz)⟩
theorem look_eq {T T2 : Tab} {i sq : UInt64} {r : Res} {ag : Bool} {cd : UInt8} (hf : FitRes r) (hL : (NoId T.l i ∧ T2 = T ∧ r = zeroR ∧ ag = false ∧ cd = 5) ∨ (∃ j y, IsAt T.l i j y ∧ T2 = SetG T j { y with lf := y.tt } ∧ ((sq.toNat = 0 ∨ sq.toNat < y.sq.toNat) → r = zeroR ∧ ag = false ∧ cd = 6) ∧ (¬ (sq.toNat = 0 ∨ sq.toNat < y.sq.toNat) → sq = y.sq → ag = true ∧ cd = 0 ∧ ∃ ok, RdR y.kp r ok) ∧ (¬ (sq.toNat = 0 ∨ sq.toNat < y.sq.toNat) → sq ≠ y.sq → r = zeroR ∧ ag = false ∧ cd = 0))) : T2 = lookT T i ∧ (r, ag, cd) = lookR T i sq := by
  rcases hL with ⟨h1, h2, h3, h4, h5⟩ | ⟨j, y, h1, h2, h3, h4, h5⟩
  · refine ⟨?_, ?_⟩
    · rw [h2]; unfold lookT; rw [upF_no h1]
    · unfold lookR; rw [firstOf_no h1, h3, h4, h5]; rfl
  · refine ⟨?_, ?_⟩
    · rw [h2]; unfold lookT SetG; rw [upF_at h1]
    · unfold lookR; rw [firstOf_at h1]
      unfold lookO
      simp only
      by_cases q : sq.toNat = 0 ∨ sq.toNat < y.sq.toNat
      · rw [if_pos q]; obtain ⟨a, b, c⟩ := h3 q; rw [a, b, c]
      · rw [if_neg q]
        by_cases q2 : sq = y.sq
        · rw [if_pos q2]; obtain ⟨a, b, ok, c⟩ := h4 q q2; rw [a, b, decR_rd hf c]
        · rw [if_neg q2]; obtain ⟨a, b, c⟩ := h5 q q2; rw [a, b, c]
def Ok1 (y : Ses) : Prop := 1 ≤ y.lf.toNat ∧ y.lf.toNat ≤ y.tt.toNat ∧ y.kp.length ≤ 12000 ∧ (y.sq.toNat ≠ 0 → ∃ r, FitRes r ∧ encR r = y.kp)
def ids (l : List Ses) : List Nat := l.map fun y => y.id.toNat
def Inv (k : Nat) (T : Tab) : Prop := T.l.length ≤ 4 ∧ T.la.toNat ≤ k ∧ (ids T.l).Pairwise (· < ·) ∧ (∀ y ∈ T.l, Ok1 y) ∧ ∀ n ∈ ids T.l, 1 ≤ n ∧ n ≤ T.la.toNat
theorem upF_ids {i : UInt64} {f : Ses → Ses} (hf : ∀ y, (f y).id = y.id) : ∀ l, ids (upF i f l) = ids l := by
  intro l
  induction l with
  | nil => rfl
  | cons y l ih => unfold upF; split
                   · simp [ids, hf]
                   · simp only [ids, List.map_cons] at ih ⊢; rw [ih]
theorem upF_mem {i : UInt64} {f : Ses → Ses} : ∀ {l : List Ses} {z : Ses}, z ∈ upF i f l → ∃ y ∈ l, z = y ∨ z = f y := by
  intro l
  induction l with
  | nil => intro z h; simp [upF] at h
  | cons y l ih =>
    intro z h
    unfold upF at h
    split at h
    · rcases List.mem_cons.1 h with q | q
      · exact ⟨y, List.mem_cons_self .., .inr q⟩
      · exact ⟨z, List.mem_cons_of_mem _ q, .inl rfl⟩
    · rcases List.mem_cons.1 h with q | q
      · exact ⟨y, List.mem_cons_self .., .inl q⟩
      · obtain ⟨w, h1, h2⟩ := ih q; exact ⟨w, List.mem_cons_of_mem _ h1, h2⟩
theorem upF_length {i : UInt64} {f : Ses → Ses} : ∀ l, (upF i f l).length = l.length := by
  intro l
  induction l with
  | nil => rfl
  | cons y l ih => unfold upF; split <;> simp [ih]
theorem inv_up {k : Nat} {T : Tab} {i : UInt64} {f : Ses → Ses} (h : Inv k T) (hid : ∀ y, (f y).id = y.id) (hok : ∀ y, Ok1 y → Ok1 (f y)) : Inv k ⟨upF i f T.l, T.la⟩ := by
  obtain ⟨h1, h2, h3, h4, h5⟩ := h
  refine ⟨by rw [upF_length]; exact h1, h2, by rw [upF_ids hid]; exact h3, fun z hz => ?_, by rw [upF_ids hid]; exact h5⟩
  obtain ⟨y, hy, q | q⟩ := upF_mem hz
  · subst q; exact h4 _ hy
  · subst q; exact hok _ (h4 _ hy)
theorem inv_look {k : Nat} {T : Tab} {i : UInt64} (h : Inv k T) : Inv k (lookT T i) :=
  inv_up h (fun _ => rfl) fun y hy => ⟨by have := hy.1; have := hy.2.1; show 1 ≤ y.tt.toNat; omega, Nat.le_refl _, hy.2.2.1, hy.2.2.2⟩
theorem inv_keep {k : Nat} {T : Tab} {i sq : UInt64} {r : Res} (h : Inv k T) (hf : FitRes r) (hl : (encR r).length ≤ 12000) : Inv k (keepT T i sq (encR r)) :=
  inv_up h (fun y => by unfold keepF; split <;> rfl) fun y hy => by
    unfold keepF; split
    · exact ⟨hy.1, hy.2.1, hl, fun _ => ⟨r, hf, rfl⟩⟩
    · exact hy
theorem inv_open {k : Nat} {T : Tab} {ttl : UInt64} (h : Inv k T) (hk : k ≤ 1000000) : Inv (k + 1) (openT T ttl).1 := by
  obtain ⟨h1, h2, h3, h4, h5⟩ := h
  unfold openT
  split
  · exact ⟨h1, Nat.le_succ_of_le h2, h3, h4, h5⟩
  · split
    · exact ⟨h1, Nat.le_succ_of_le h2, h3, h4, h5⟩
    · rename_i a b
      have e : (T.la + 1).toNat = T.la.toNat + 1 := by rw [UInt64.toNat_add]; show (T.la.toNat + 1) % 2 ^ 64 = _; omega
      refine ⟨by simp; omega, by show (T.la + 1).toNat ≤ _; omega, ?_, ?_, ?_⟩
      · simp only [ids, List.map_append, List.map_cons, List.map_nil]
        rw [List.pairwise_append]
        refine ⟨h3, by simp, fun a ha b hb => ?_⟩
        rw [List.mem_singleton] at hb; subst hb
        have := h5 a ha; omega
      · intro y hy
        rcases List.mem_append.1 hy with q | q
        · exact h4 y q
        · rw [List.mem_singleton] at q; subst q
          exact ⟨by show 1 ≤ ttl.toNat; omega, Nat.le_refl _, by simp, fun q => absurd rfl q⟩
      · intro n hn
        simp only [ids, List.map_append, List.map_cons, List.map_nil] at hn
        rcases List.mem_append.1 hn with q | q
        · have := h5 n q; show _ ∧ n ≤ (T.la + 1).toNat; omega
        · rw [List.mem_singleton] at q; subst q; exact ⟨by show 1 ≤ (T.la + 1).toNat; omega, Nat.le_refl _⟩
theorem dec_nat {x : UInt64} (h : 1 ≤ x.toNat) : (x - 1).toNat = x.toNat - 1 := by
  rw [UInt64.toNat_sub]; have := x.toNat_lt
  show (2 ^ 64 - 1 + x.toNat) % 2 ^ 64 = _
  omega
theorem inv_tick {k : Nat} {T : Tab} (h : Inv k T) : Inv k (tickT T) := by
  obtain ⟨h1, h2, h3, h4, h5⟩ := h
  have hs : List.Sublist (ids (alive (T.l.map dec1))) (ids T.l) := by
    have : ids (T.l.map dec1) = ids T.l := by simp [ids, dec1]
    rw [← this]; exact (List.filter_sublist).map _
  refine ⟨Nat.le_trans (alive_len _) (by rw [List.length_map]; exact h1), h2, h3.sublist hs, fun z hz => ?_, fun n hn => h5 n (hs.subset hn)⟩
  obtain ⟨hz1, hz2⟩ := List.mem_filter.1 hz
  obtain ⟨y, hy, rfl⟩ := List.mem_map.1 hz1
  obtain ⟨g1, g2, g3, g4⟩ := h4 y hy
  have hal : (dec1 y).lf.toNat ≠ 0 := of_decide_eq_true hz2
  exact ⟨by omega, by show (y.lf - 1).toNat ≤ y.tt.toNat; rw [dec_nat g1]; omega, g3, g4⟩
theorem inv_kp {k : Nat} {T : Tab} (h : Inv k T) : ∀ y ∈ T.l, y.kp.length ≤ 299000 := fun y hy => by have := (h.2.2.2.1 y hy).2.2.1; omega
theorem inv_mono {k k2 : Nat} {T : Tab} (h : Inv k T) (hk : k ≤ k2) : Inv k2 T := ⟨h.1, Nat.le_trans h.2.1 hk, h.2.2⟩
end Go.Proofs.Ytomaijljeacpjaa.Wt
namespace Go.Proofs.Ytomaijljeacpjaa.Wt
open Go Go.Proofs.Ytomaijljeacpjaa.Am Go.Proofs.Ytomaijljeacpjaa.IrAll
set_option linter.unusedVariables false
set_option linter.unusedSimpArgs false
variable {h base : H} {L : List Seg} {R : List Nat}
theorem awake18_ran (W : Mem h h [] []) : Cll tab0 10 [] h (fun v h2 => v = .bool true ∧ Mem h h2 [] []) := ⟨_, h, awake_run h, rfl, W⟩
def one (tu : UInt64) (n : Nat) : Tab := ⟨if n < tu.toNat then [⟨1, tu, UInt64.ofNat (tu.toNat - n), 0, []⟩] else [], 1⟩
end Go.Proofs.Ytomaijljeacpjaa.Wt
namespace Go.Proofs.Ytomaijljeacpjaa.Wt
open Go Go.Proofs.Ytomaijljeacpjaa.Am Go.Proofs.Ytomaijljeacpjaa.IrAll
set_option linter.unusedVariables false
set_option linter.unusedSimpArgs false
structure SAct where
  d : UInt8
  id : UInt64
  n : UInt64
  rc : UInt8
  rn : UInt64
  rv : List UInt8
  rr : List Rrow
  rrp : Option Addr × Nat
def SAct.cells (x : SAct) : List Value := [(.int .u8 (((x.d).toNat : Nat) : Int)), (.int .u64 (((x.id).toNat : Nat) : Int)), (.int .u64 (((x.n).toNat : Nat) : Int)), (.int .u8 (((x.rc).toNat : Nat) : Int)), (.int .u64 (((x.rn).toNat : Nat) : Int)), (.string (bs x.rv)), (.slice x.rrp.1 x.rr.length x.rrp.2)]
def KSAct : Row SAct := ⟨SAct.cells, 7, fun _ => rfl, by decide, fun _ => rfl⟩
variable {h base : H} {L : List Seg} {R : List Nat}
def SAct.res (y : SAct) : Res := ⟨y.rc, y.rn, y.rv, y.rr⟩
def SAct.sv (y : SAct) : Value := .slice y.rrp.1 y.rr.length y.rrp.2
theorem OpensL.re {P : Program} {t : TypeId} {α β : Type} {L : Lay α} {L' : Lay β} {n : Nat} {ok : α → Prop} {ok' : β → Prop} (g : α → List Value → β) (h : OpensL P t L n ok) (hL : ∀ h a cs, L h a cs → L' h (g a cs) cs) (hok : ∀ a cs, ok a → ok' (g a cs)) : OpensL P t L' n ok' :=
  ⟨h.1, fun enc W held fuel cs x e k => by
    obtain ⟨a, bl, acs, h1, h2, h3, h4, h5⟩ := h.2 enc W held fuel cs x e k
    exact ⟨g a acs, bl, acs, h1, h2, h3, fun hh c => hL _ _ _ (h4 hh c), hok _ _ h5⟩⟩
def layAct : Lay SAct := fun h a cs => cs = KSAct.cells a ∧ KRrow.Sl h a.sv a.rr
def spOf : Option Value → Option Addr × Nat
  | some (.slice P _ c) => (P, c)
  | _ => (none, 0)
def actOf (x : UInt8 × UInt64 × UInt64 × Res) (cs : List Value) : SAct := ⟨x.1, x.2.1, x.2.2.1, x.2.2.2.cd, x.2.2.2.n, x.2.2.2.va, x.2.2.2.rs, spOf cs[6]?⟩
theorem actOf_lay (h : H) (x : UInt8 × UInt64 × UInt64 × Res) (cs : List Value) (q : ∃ V, cs = [.int .u8 ((x.1.toNat : Nat) : Int), .int .u64 ((x.2.1.toNat : Nat) : Int), .int .u64 ((x.2.2.1.toNat : Nat) : Int)] ++ Res.cells x.2.2.2 V ∧ SlL (fun _ y cs => cs = KRrow.cells y) 3 h V x.2.2.2.rs) : layAct h (actOf x cs) cs := by
  obtain ⟨V, rfl, hS⟩ := q
  have A : KRrow.Sl h V x.2.2.2.rs := SlL.sl (K := KRrow) hS
  obtain ⟨P, c, rfl⟩ := A.shape
  exact ⟨rfl, A⟩
set_option maxRecDepth 100000 in
theorem opens0_33 : OpensL Try.prog 33 (α := UInt8 × UInt64 × UInt64 × Res) (fun h x cs => ∃ V, cs = [.int .u8 ((x.1.toNat : Nat) : Int), .int .u64 ((x.2.1.toNat : Nat) : Int), .int .u64 ((x.2.2.1.toNat : Nat) : Int)] ++ Res.cells x.2.2.2 V ∧ SlL (fun _ y cs => cs = KRrow.cells y) 3 h V x.2.2.2.rs) 7 (fun x => x.2.2.2.va.length < 9223372036854775808 ∧ x.2.2.2.rs.length < 9223372036854775808 ∧ ∀ p ∈ x.2.2.2.rs, p.ky.length < 9223372036854775808 ∧ p.va.length < 9223372036854775808) := by
  refine OpensL.struct (fs := [(5, 0), (28, 1), (28, 2), (31, 3)]) (L := (layP layU8 (layP layU64 (layP layU64 (fun h c cs => ∃ V, cs = Res.cells c V ∧ SlL (fun _ y cs => cs = KRrow.cells y) 3 h V c.rs))))) (mk := fun (d, id, n, r) => (d, id, n, r)) ?_ ?_ (by kernel_rfl) (by kernel_rfl) (OpensLF.cons (by decide) (by decide) opens_5 (OpensLF.cons (by decide) (by decide) opens_28 (OpensLF.cons (by decide) (by decide) opens_28 (OpensLF.one opens_31))))
  · rintro h ⟨d, id, n, r⟩ cs ⟨_, _, rfl, rfl, ⟨_, _, rfl, rfl, ⟨_, _, rfl, rfl, ⟨V, rfl, hS⟩⟩⟩⟩
    exact ⟨V, rfl, hS⟩
  · rintro ⟨d, id, n, r⟩ ⟨k0, k1, k2, k3⟩
    exact k3
theorem opens_33 : OpensL Try.prog 33 (α := SAct) layAct 7 (fun a => (SAct.res a).va.length < 9223372036854775808 ∧ (SAct.res a).rs.length < 9223372036854775808 ∧ ∀ p ∈ (SAct.res a).rs, p.ky.length < 9223372036854775808 ∧ p.va.length < 9223372036854775808) := OpensL.re actOf opens0_33 actOf_lay (fun _ _ k => k)
theorem opens_22 : OpensL Try.prog 22 (laySl layAct 7) 1 (fun l => l.length < 9223372036854775808 ∧ ∀ x ∈ l, (fun a => (SAct.res a).va.length < 9223372036854775808 ∧ (SAct.res a).rs.length < 9223372036854775808 ∧ ∀ p ∈ (SAct.res a).rs, p.ky.length < 9223372036854775808 ∧ p.va.length < 9223372036854775808) x) := OpensL.slice Try.underlying22 (by kernel_rfl) (by decide) opens_33
theorem SlL.acts {V : Value} {l : List SAct} (A : SlL layAct 7 h V l) : KSAct.Sl h V l ∧ ∀ a ∈ l, KRrow.Sl h a.sv a.rr := by
  cases A with
  | nil => exact ⟨.nil, fun a q => by simp at q⟩
  | emp a c => exact ⟨.emp a c, fun a q => by simp at q⟩
  | row b c l cells hg hl he =>
    refine ⟨SlL.sl (K := KSAct) (.row b c l cells hg hl fun j y hy => (he j y hy).1), fun a ha => ?_⟩
    obtain ⟨j, hj, rfl⟩ := List.mem_iff_getElem.1 ha
    exact (he j _ (List.getElem?_eq_getElem hj)).2
def encSum (l : List SAct) : Nat := (l.map fun a => (encR a.res).length).sum
theorem encSum_snoc {l : List SAct} {i : Nat} {y : SAct} (h : l[i]? = some y) : encSum (l.take (i + 1)) = encSum (l.take i) + (encR y.res).length := by
  unfold encSum; rw [take_snocA h]; simp
theorem encSum_mem : ∀ {l : List SAct} {a : SAct}, a ∈ l → (encR a.res).length ≤ encSum l := by
  intro l
  induction l with
  | nil => intro a h; simp at h
  | cons x l ih =>
    intro a h
    unfold encSum
    rw [List.map_cons, List.sum_cons]
    rcases List.mem_cons.1 h with q | q
    · subst q; omega
    · have := ih q; unfold encSum at this; omega
def OkAct (a : SAct) : Prop := FitRes a.res ∧ (encR a.res).length ≤ 12000 ∧ TightR a.res
set_option maxRecDepth 8000 in
theorem Great18_ran (W : Mem h h [] []) {V : Value} {l : List SAct} (A : KSAct.Sl h V l) (hQ : ∀ a ∈ l, KRrow.Sl h a.sv a.rr) (hb : l.length < 9223372036854775808 ∧ ∀ a ∈ l, a.res.va.length < 9223372036854775808 ∧ a.res.rs.length < 9223372036854775808 ∧ ∀ p ∈ a.res.rs, p.ky.length < 9223372036854775808 ∧ p.va.length < 9223372036854775808) : Cll tab0 9 [V] h (fun v h2 => ∃ g, v = .bool g ∧ (g = false → l.length ≤ 120 ∧ ∀ a ∈ l, OkAct a) ∧ Mem h h2 [] []) := by
  obtain ⟨Pl, nl, rfl⟩ := A.shape
  obtain ⟨hb1, hb2⟩ := hb
  refine Cll.code rfl rfl ?_
  refine WC.env [(0, _)] rfl ?_
  refine WC.seq (WC.run (WS.op rfl rfl (WS.nil [(0, _)] rfl ?_)))
  refine WC.seq (WC.seq (WC.run (WS.op rfl rfl (WS.op rfl (op_lenVS A rfl) ?_))))
  refine WS.gtrN (a := (l).length) (b := 120) rfl rfl rfl (fun e7 => ?_) (fun e7 => ?_)
  ·
   refine WS.nil [(0, _), (7, _)] rfl ?_
   refine WC.condT rfl (WC.seq (WC.run (WS.op rfl rfl (WS.nil [(2, _)] rfl ?_))))
   refine WC.ret (⟨[_], (res_tmp rfl res_nil), ?_⟩)
   exact ⟨_, rfl, fun q => (nomatch q), W.bare.take 0⟩
  ·
   refine WS.nil [(0, _), (7, _)] rfl ?_
   refine WC.condF rfl (WC.skip (WC.seq (WC.run (WS.op rfl rfl (WS.nil [(0, _), (3, _)] rfl ?_)))))
   refine WC.seq (WC.seq (WC.run (WS.op rfl rfl (WS.nil [(0, _), (3, _), (4, _)] rfl ?_))))
   refine WC.block ?_
   obtain ⟨L1, eL3, M2⟩ := Mem.name W.bare
   refine WC.loop (σ := Nat × Nat) (fun ((sm, i)) => [(0, (.slice Pl l.length nl)), (3, (.int .i64 ((sm : Nat) : Int))), (4, (.int .i64 ((i : Nat) : Int)))]) (fun ((sm, i)) hh => Mem h hh (L1) [] ∧ sm = encSum (l.take i) ∧ i ≤ l.length ∧ encSum (l.take i) ≤ 1000000 * i ∧ ∀ a ∈ l.take i, FitRes a.res ∧ TightR a.res) (fun ((sm, i)) => l.length - i) (0, 0) rfl ⟨M2, ?_⟩ ?_
   · exact ⟨by simp [encSum], by omega, by simp [encSum], by simp⟩
   ·rintro ⟨sm, i⟩ h4 ⟨M5, ⟨hsm, hi1, hs1, hT⟩⟩
    replace eL3 := eL3.symm; subst eL3
    refine WC.env [(0, _), (3, _), (4, _)] rfl ?_
    refine WC.seq (WC.seq (WC.run (WS.op rfl rfl (WS.op rfl rfl (WS.op rfl (op_lenVS A rfl) ?_)))))
    refine WS.lssN (a := i) (b := (l).length) rfl rfl rfl (fun e11 => ?_) (fun e11 => ?_)
    ·
     refine WS.nil [(0, _), (3, _), (4, _), (11, _)] rfl ?_
     refine WC.condT rfl (WC.skip (WC.seq (WC.block (WC.seq (WC.seq (WC.run (WS.op rfl rfl (WS.op rfl rfl ?_))))))))
     obtain ⟨y16, hy16⟩ : ∃ y, (l)[i]? = some y := ⟨_, List.getElem?_eq_getElem (show i < (l).length by first | omega | (simp only [List.length_drop, List.length_take, List.length_append, List.length_cons, List.length_nil, List.length_singleton]; omega) | (simp only [List.length_drop, List.length_take, List.length_append, List.length_cons, List.length_nil, List.length_singleton] at *; omega))⟩
     refine WS.iaVS A i hy16 rfl rfl rfl rfl ?_
     intro b16_ o16_ ha16
     refine WS.op rfl rfl (WS.op rfl (op_ldN rfl (At.ldsub (ha16.mono M5.sub) (cs2 := [_, _, _, _]) rfl (Nat.le_of_ble_eq_true rfl))) ?_)
     refine WS.call rfl rfl rfl (GreatR_ran M5.here (r := (⟨y16.rc, y16.rn, y16.rv, y16.rr⟩ : Res)) ((hQ _ (List.mem_of_getElem? hy16)).mono M5.sub) (by exact hb2 _ (List.mem_of_getElem? hy16))) ?_
     rintro _ h6 ⟨⟨g19, rfl, hg19⟩, N7⟩
     have M8 := M5.trans N7
     refine WS.nil [(0, _), (3, _), (4, _), (19, _)] rfl ?_
     cases hb1 : g19
     ·
      refine WC.condF rfl (WC.skip (WC.run ?_))
      have hfr := hg19 (by assumption)
      have hes := encSum_snoc hy16
      have hlr : (encR y16.res).length ≤ 1000000 := Nat.le_trans (encR_len hfr.2) (by omega)
      refine WS.op rfl rfl (WS.op rfl rfl (WS.op rfl rfl ?_))
      refine WS.iaVS A i hy16 rfl rfl rfl rfl ?_
      intro b23_ o23_ ha23
      refine WS.op rfl rfl (WS.op rfl (op_ldN rfl (At.ldsub (ha23.mono M8.sub) (cs2 := [_, _, _, _]) rfl (Nat.le_of_ble_eq_true rfl))) ?_)
      refine WS.call rfl rfl rfl (refWriteR_ran M8.here (r := (⟨y16.rc, y16.rn, y16.rv, y16.rr⟩ : Res)) ((hQ _ (List.mem_of_getElem? hy16)).mono M8.sub) (by exact (hg19 (by assumption)).1)) ?_
      rintro _ h9 ⟨rfl, N10⟩
      have M11 := M8.trans N10
      refine WS.op rfl (op_lenS (l := (encR (⟨y16.rc, y16.rn, y16.rv, y16.rr⟩ : Res))) rfl) (WS.opV (.int .i64 (((sm + ((encR (⟨y16.rc, y16.rn, y16.rv, y16.rr⟩ : Res))).length) : Nat) : Int)) rfl rfl (add_i64 (a := sm) (b := ((encR (⟨y16.rc, y16.rn, y16.rv, y16.rr⟩ : Res))).length) (by have : (encR y16.res).length ≤ 1000000 := hlr; have e : (encR ⟨y16.rc, y16.rn, y16.rv, y16.rr⟩).length = (encR y16.res).length := rfl; omega)) (WS.op rfl rfl (WS.nil [(0, _), (3, _), (4, _)] rfl ?_)))
      refine WC.run (WS.op rfl rfl (WS.opV (.int .i64 (((i + 1) : Nat) : Int)) rfl rfl (add_i64 (a := i) (b := 1) (by omega)) (WS.op rfl rfl (WS.nil [(0, _), (3, _), (4, _)] rfl ?_))))
      refine ⟨((sm + ((encR (⟨y16.rc, y16.rn, y16.rv, y16.rr⟩ : Res))).length), i + 1), rfl, ⟨(M11.bare.take 0), ?_⟩, ?_⟩
      · exact ⟨by rw [hes, ← hsm]; rfl, by omega, by omega, fun a ha => by rw [take_snocA hy16] at ha; rcases List.mem_append.1 ha with q | q; exact hT a q; (rw [List.mem_singleton] at q; subst q; exact hfr)⟩
      · simp only []; omega
     ·
      refine WC.condT rfl (WC.seq (WC.run (WS.op rfl rfl (WS.nil [(2, _)] rfl ?_))))
      refine WC.ret (⟨[_], (res_tmp rfl res_nil), ?_⟩)
      exact ⟨_, rfl, fun q => (nomatch q), M8.bare.take 0⟩
    ·
     refine WS.nil [(0, _), (3, _), (4, _), (11, _)] rfl ?_
     refine WC.condF rfl (WC.exit ?_)
     refine WC.seq (WC.run (WS.op rfl rfl ?_))
     refine WS.gtrN (a := sm) (b := 12000) rfl rfl rfl (fun e30 => ?_) (fun e30 => ?_)
     ·
      refine WS.op rfl rfl (WS.nil [(2, _)] rfl ?_)
      refine WC.ret (⟨[_], (res_tmp rfl res_nil), ?_⟩)
      exact ⟨_, rfl, fun q => (nomatch q), M5.bare.take 0⟩
     ·
      refine WS.op rfl rfl (WS.nil [(2, _)] rfl ?_)
      refine WC.ret (⟨[_], (res_tmp rfl res_nil), ?_⟩)
      have htk : l.take i = l := List.take_of_length_le (by omega)
      rw [htk] at hT hs1 hsm
      exact ⟨_, rfl, fun _ => ⟨by omega, fun a ha => ⟨(hT a ha).1, by have := encSum_mem ha; omega, (hT a ha).2⟩⟩, M5.bare.take 0⟩
end Go.Proofs.Ytomaijljeacpjaa.Wt
namespace Go.Proofs.Ytomaijljeacpjaa.Wt
open Go Go.Proofs.Ytomaijljeacpjaa.Am Go.Proofs.Ytomaijljeacpjaa.IrAll
set_option linter.unusedVariables false
set_option linter.unusedSimpArgs false
variable {h base : H} {L : List Seg} {R : List Nat}
theorem inv_new : Inv 0 (⟨[], 0⟩ : Tab) := ⟨by simp, Nat.le_refl _, List.Pairwise.nil, fun y hy => by simp at hy, fun n hn => by simp [ids] at hn⟩
end Go.Proofs.Ytomaijljeacpjaa.Wt
namespace Go.Proofs.Ytomaijljeacpjaa.Wt
open Go Go.Proofs.Ytomaijljeacpjaa.Am Go.Proofs.Ytomaijljeacpjaa.IrAll
set_option linter.unusedVariables false
set_option linter.unusedSimpArgs false
variable {h : H}
def toS (z : RSes) : Ses := ⟨z.id, z.tt, z.lf, z.sq, encR z.res⟩
def TS (W : RTab) : Tab := ⟨W.l.map toS, W.la⟩
def Q1 (h : H) (z : RSes) : Prop := FitRes z.res ∧ (encR z.res).length ≤ 12000 ∧ (z.sq.toNat = 0 → z.res = zeroR) ∧ KRrow.Sl h z.sv z.rr
def QW (h : H) (W : RTab) : Prop := ∀ z ∈ W.l, Q1 h z
def Rel (h : H) (k : Nat) (T : Tab) (W : RTab) : Prop := Inv k T ∧ norm T = TS W ∧ QW h W
theorem upF_map {i : UInt64} {f : Ses → Ses} : ∀ {l : List Ses}, (ids l).Pairwise (· < ·) → upF i f l = l.map (fun y => if y.id = i then f y else y) := by
  intro l
  induction l with
  | nil => intro _; rfl
  | cons y l ih =>
    intro hp
    have hp2 := List.pairwise_cons.1 hp
    unfold upF; rw [List.map_cons]
    by_cases q : y.id = i
    · rw [if_pos q, if_pos q]; congr 1
      rw [show l = l.map id by simp]
      simp only [List.map_map]
      apply List.map_congr_left
      intro z hz
      have hlt := hp2.1 z.id.toNat (List.mem_map.2 ⟨z, hz, rfl⟩)
      show z = if z.id = i then f z else z
      rw [if_neg (fun e => by have hlt2 : y.id.toNat < z.id.toNat := hlt; rw [e, ← q] at hlt2; omega)]
    · rw [if_neg q, if_neg q, ih hp2.2]
end Go.Proofs.Ytomaijljeacpjaa.Wt
namespace Go.Proofs.Ytomaijljeacpjaa.Wt
open Go Go.Proofs.Ytomaijljeacpjaa.Am Go.Proofs.Ytomaijljeacpjaa.IrAll
open Go.Proofs.Ytomaijljeacpjaa.Am.WS renaming op → C
open Go.Proofs.Ytomaijljeacpjaa.Am.WS renaming off → D
open Go.Proofs.Ytomaijljeacpjaa.Am.WS renaming nil → F
open Go.Proofs.Ytomaijljeacpjaa.Am.WS renaming opV → G
open Nat renaming le_of_ble_eq_true → J
open Go.Proofs.Ytomaijljeacpjaa.Am.WC renaming run → U
open Go.Proofs.Ytomaijljeacpjaa.Am.WC renaming seq → Y
set_option linter.unusedVariables false
set_option linter.unusedSimpArgs false
structure Dn where
  di : UInt64
  ds : UInt64
  dc : UInt8
  dn : UInt64
  dv : List UInt8
  dr : List Rrow
  drp : Option Addr × Nat
def Dn.cells (x : Dn) : List Value := [(.int .u64 (((x.di).toNat : Nat) : Int)), (.int .u64 (((x.ds).toNat : Nat) : Int)), (.int .u8 (((x.dc).toNat : Nat) : Int)), (.int .u64 (((x.dn).toNat : Nat) : Int)), (.string (bs x.dv)), (.slice x.drp.1 x.dr.length x.drp.2)]
def KDn : Row Dn := ⟨Dn.cells, 6, fun _ => rfl, by decide, fun _ => rfl⟩
variable {h base : H} {L : List Seg} {R : List Nat}
theorem mm_max {k : IntKind} {a b : Nat} : Value.int k (if false = true then (if (b : Int) < (a : Int) then (b : Int) else (a : Int)) else (if (b : Int) > (a : Int) then (b : Int) else (a : Int))) = .int k ((max a b : Nat) : Int) := by
  rw [if_neg (by decide)]
  congr 1
  by_cases h : b > a
  · rw [if_pos (by omega), Nat.max_eq_right (by omega)]
  · rw [if_neg (by omega), Nat.max_eq_left (by omega)]
def Dn.res (y : Dn) : Res := ⟨y.dc, y.dn, y.dv, y.dr⟩
def Dn.sv (y : Dn) : Value := .slice y.drp.1 y.dr.length y.drp.2
def zeroDn : Dn := ⟨0, 0, 0, 0, [], [], (none, 0)⟩
def lastDn (i : UInt64) : List Dn → Dn → Dn
  | [], o => o
  | d :: l, o => lastDn i l (if d.di = i then d else o)
theorem lastDn_snoc {i : UInt64} {d : Dn} : ∀ {l : List Dn} {o : Dn}, lastDn i (l ++ [d]) o = if d.di = i then d else lastDn i l o := by
  intro l
  induction l with
  | nil => intro o; rfl
  | cons x l ih => intro o; exact ih
theorem lastDn_mem {i : UInt64} : ∀ {l : List Dn} {o : Dn}, (lastDn i l o ∈ l ∧ (lastDn i l o).di = i) ∨ lastDn i l o = o := by
  intro l
  induction l with
  | nil => intro o; exact .inr rfl
  | cons x l ih =>
    intro o
    unfold lastDn
    rcases ih (o := if x.di = i then x else o) with ⟨q1, q2⟩ | q
    · exact .inl ⟨List.mem_cons_of_mem _ q1, q2⟩
    · by_cases c : x.di = i
      · rw [if_pos c] at q; rw [if_pos c, q]; exact .inl ⟨List.mem_cons_self .., c⟩
      · rw [if_neg c] at q; rw [if_neg c]; exact .inr q
theorem lastDn_none {i : UInt64} : ∀ {l : List Dn} {o : Dn}, (∀ d ∈ l, d.di ≠ i) → lastDn i l o = o := by
  intro l
  induction l with
  | nil => intro o _; rfl
  | cons x l ih => intro o hz; unfold lastDn; rw [if_neg (hz x (List.mem_cons_self ..))]; exact ih (fun w hw => hz w (List.mem_cons_of_mem _ hw))
def Once (h : H) (k : Nat) (T : Tab) (gv : Nat) (al : List Dn) : Prop := Inv k T ∧ gv ≤ T.la.toNat ∧ (∀ d ∈ al, d.di.toNat ≤ T.la.toNat ∧ FitRes d.res ∧ KRrow.Sl h d.sv d.dr) ∧ (∀ y ∈ T.l, y.sq = (lastDn y.id al zeroDn).ds ∧ (y.sq.toNat ≠ 0 → y.kp = encR (lastDn y.id al zeroDn).res)) ∧ al.length ≤ k
theorem once_new : Once h 0 ⟨[], 0⟩ 0 [] := ⟨inv_new, Nat.le_refl _, fun d hd => by simp at hd, fun y hy => by simp at hy, Nat.le_refl _⟩
theorem open_cases {k : Nat} {T : Tab} {ttl : UInt64} (h : Inv k T) (hk : k ≤ 1000000) : ((openT T ttl).2.2.toNat = 0 ∧ (openT T ttl).2.1.toNat = T.la.toNat + 1 ∧ (openT T ttl).1.la.toNat = T.la.toNat + 1) ∨ ((openT T ttl).2.2.toNat ≠ 0 ∧ (openT T ttl).2.1.toNat = 0 ∧ (openT T ttl).1.la.toNat = T.la.toNat) := by
  have h2 := h.2.1
  have e : (T.la + 1).toNat = T.la.toNat + 1 := by rw [UInt64.toNat_add]; show (T.la.toNat + 1) % 2 ^ 64 = _; omega
  unfold openT
  split
  · exact .inr ⟨by show (11 : UInt8).toNat ≠ 0; decide, rfl, rfl⟩
  · split
    · exact .inr ⟨by show (9 : UInt8).toNat ≠ 0; decide, rfl, rfl⟩
    · exact .inl ⟨rfl, e, e⟩
theorem once_open {k : Nat} {T : Tab} {gv : Nat} {al : List Dn} {ttl : UInt64} (o : Once h k T gv al) (hk : k ≤ 1000000) : Once h (k + 1) (openT T ttl).1 (max gv (openT T ttl).2.1.toNat) al := by
  obtain ⟨h1, h2, h3, h4, h5⟩ := o
  have hc := open_cases (ttl := ttl) h1 hk
  refine ⟨inv_open h1 hk, by omega, fun d hd => ⟨by have := (h3 d hd).1; omega, (h3 d hd).2⟩, ?_, by omega⟩
  unfold openT
  split
  · exact h4
  · split
    · exact h4
    · intro y hy
      rcases List.mem_append.1 hy with q | q
      · exact h4 y q
      · rw [List.mem_singleton] at q; subst q
        have e : (T.la + 1).toNat = T.la.toNat + 1 := by have := h1.2.1; rw [UInt64.toNat_add]; show (T.la.toNat + 1) % 2 ^ 64 = _; omega
        have : lastDn (T.la + 1) al zeroDn = zeroDn := lastDn_none fun d hd q => by have := (h3 d hd).1; rw [q] at this; omega
        show (0 : UInt64) = (lastDn (T.la + 1) al zeroDn).ds ∧ _
        rw [this]; exact ⟨rfl, fun q => absurd rfl q⟩
theorem once_look {k : Nat} {T : Tab} {gv : Nat} {al : List Dn} {i : UInt64} (o : Once h k T gv al) : Once h k (lookT T i) gv al := by
  obtain ⟨h1, h2, h3, h4, h5⟩ := o
  refine ⟨inv_look h1, h2, h3, fun z hz => ?_, h5⟩
  obtain ⟨y, hy, q | q⟩ := upF_mem hz
  · subst q; exact h4 _ hy
  · subst q; exact h4 y hy
theorem once_tick {k : Nat} {T : Tab} {gv : Nat} {al : List Dn} (o : Once h k T gv al) : Once h k (tickT T) gv al := by
  obtain ⟨h1, h2, h3, h4, h5⟩ := o
  refine ⟨inv_tick h1, h2, h3, fun z hz => ?_, h5⟩
  obtain ⟨y, hy, rfl⟩ := List.mem_map.1 (List.mem_filter.1 hz).1
  exact h4 y hy
theorem once_mono {k k2 : Nat} {T : Tab} {gv : Nat} {al : List Dn} (o : Once h k T gv al) (hk : k ≤ k2) : Once h k2 T gv al := ⟨inv_mono o.1 hk, o.2.1, o.2.2.1, o.2.2.2.1, by have := o.2.2.2.2; omega⟩
theorem once_keep {k : Nat} {T : Tab} {gv : Nat} {al : List Dn} {i sq : UInt64} {d : Dn} (o : Once h k T gv al) (hd : d.di = i) (hs : d.ds = sq) (hf : FitRes d.res) (hl : (encR d.res).length ≤ 12000) (hsl : KRrow.Sl h d.sv d.dr) (hy : ∃ y ∈ T.l, y.id = i) (hlt : (lastDn i al zeroDn).ds.toNat < sq.toNat) : Once h (k + 1) (keepT T i sq (encR d.res)) gv (al ++ [d]) := by
  obtain ⟨h1, h2, h3, h4, h5⟩ := o
  subst hd hs
  refine ⟨inv_mono (inv_keep h1 hf hl) (by omega), h2, ?_, ?_, by simp; omega⟩
  · intro e he
    rcases List.mem_append.1 he with q | q
    · exact h3 e q
    · rw [List.mem_singleton] at q; subst q
      obtain ⟨y, hy1, hy2⟩ := hy
      have := (h1.2.2.2.2 y.id.toNat (List.mem_map.2 ⟨y, hy1, rfl⟩)).2
      rw [hy2] at this
      exact ⟨this, hf, hsl⟩
  · intro z hz
    have hz2 : z ∈ T.l.map (fun y => if y.id = d.di then keepF d.ds (encR d.res) y else y) := by
      rw [← upF_map h1.2.2.1]; exact hz
    obtain ⟨y, hy1, rfl⟩ := List.mem_map.1 hz2
    rw [lastDn_snoc]
    have h4y := h4 y hy1
    by_cases c : y.id = d.di
    · rw [if_pos c]
      have e1 : y.sq.toNat < d.ds.toNat := by rw [h4y.1, c]; exact hlt
      unfold keepF
      rw [if_pos e1]
      show d.ds = (if d.di = y.id then d else _).ds ∧ (_ → encR d.res = encR (if d.di = y.id then d else _).res)
      rw [if_pos c.symm]
      exact ⟨rfl, fun _ => rfl⟩
    · rw [if_neg c, if_neg (fun q => c q.symm)]; exact h4y
theorem once_tells {k : Nat} {T : Tab} {gv : Nat} {al : List Dn} {i sq : UInt64} {r : Res} {ag : Bool} {cd : UInt8} (o : Once h k T gv al) (hr : (r, ag, cd) = lookR T i sq) :
    (cd = 5) ∨ (cd = 6 ∧ ag = false ∧ r = zeroR ∧ (sq.toNat = 0 ∨ sq.toNat < (lastDn i al zeroDn).ds.toNat)) ∨ (cd = 0 ∧ ag = true ∧ r = (lastDn i al zeroDn).res ∧ sq.toNat ≠ 0 ∧ sq.toNat = (lastDn i al zeroDn).ds.toNat) ∨ (cd = 0 ∧ ag = false ∧ r = zeroR ∧ sq.toNat ≠ 0 ∧ (lastDn i al zeroDn).ds.toNat < sq.toNat ∧ ∃ y ∈ (lookT T i).l, y.id = i) := by
  obtain ⟨h1, h2, h3, h4, h5⟩ := o
  unfold lookR at hr
  cases hf : firstOf i T.l with
  | none => rw [hf] at hr; cases hr; exact .inl rfl
  | some y =>
    rw [hf] at hr
    have hm : y ∈ T.l := List.mem_of_find?_eq_some hf
    have hid : y.id = i := by have := List.find?_some hf; simpa using this
    have h4y := h4 y hm
    rw [hid] at h4y
    unfold lookO at hr
    simp only at hr
    by_cases c1 : sq.toNat = 0 ∨ sq.toNat < y.sq.toNat
    · rw [if_pos c1] at hr; cases hr
      exact .inr (.inl ⟨rfl, rfl, rfl, by rw [← h4y.1]; exact c1⟩)
    · rw [if_neg c1] at hr
      by_cases c2 : sq = y.sq
      · rw [if_pos c2] at hr; cases hr
        have hne : y.sq.toNat ≠ 0 := by rw [← c2]; omega
        refine .inr (.inr (.inl ⟨rfl, rfl, ?_, by omega, by rw [← h4y.1, c2]⟩))
        rw [h4y.2 hne]
        rcases lastDn_mem (i := i) (l := al) (o := zeroDn) with ⟨q, _⟩ | q
        · exact decR_enc (h3 _ q).2.1
        · rw [q]; exact decR_enc (r := zeroR) fitR0
      · rw [if_neg c2] at hr; cases hr
        have hlt : y.sq.toNat < sq.toNat := by
          have : sq.toNat ≠ y.sq.toNat := fun q => c2 (UInt64.toNat_inj.1 q)
          omega
        refine .inr (.inr (.inr ⟨rfl, rfl, rfl, by omega, by rw [← h4y.1]; exact hlt, ?_⟩))
        have : (if y.id = i then ({ y with lf := y.tt } : Ses) else y) ∈ (lookT T i).l := by
          show _ ∈ upF i _ T.l
          rw [upF_map h1.2.2.1]
          exact List.mem_map.2 ⟨y, hm, rfl⟩
        rw [if_pos hid] at this
        exact ⟨_, this, hid⟩
theorem once_x {k : Nat} {T : Tab} {gv : Nat} {al : List Dn} {i : UInt64} (o : Once h k T gv al) : KRrow.Sl h (lastDn i al zeroDn).sv (lastDn i al zeroDn).dr ∧ (lastDn i al zeroDn).dr.length ≤ 1000000 := by
  rcases lastDn_mem (i := i) (l := al) (o := zeroDn) with ⟨q, _⟩ | q
  · exact ⟨(o.2.2.1 _ q).2.2, by have : (lastDn i al zeroDn).dr.length ≤ 300000 := (o.2.2.1 _ q).2.1.2.1; omega⟩
  · rw [q]; exact ⟨.nil, by decide⟩
set_option maxRecDepth 8000 in
theorem law_SessOnce (W : Mem h h [] []) {l : List SAct} {u0 : Value} (l0 : laySl layAct 7 h l [u0]) (k0 : l.length < 9223372036854775808 ∧ ∀ a ∈ l, a.res.va.length < 9223372036854775808 ∧ a.res.rs.length < 9223372036854775808 ∧ ∀ p ∈ a.res.rs, p.ky.length < 9223372036854775808 ∧ p.va.length < 9223372036854775808) : Cll tab0 3 [u0] h (fun v _ => v = .bool true) := by
  obtain ⟨V0, e0, S0⟩ := l0
  cases e0
  obtain ⟨A0, hQ0⟩ := SlL.acts S0
  obtain ⟨Pl, nl, rfl⟩ := A0.shape
  refine Cll.code rfl rfl ?_
  refine WC.env [(0, _)] rfl ?_
  refine Y (U (C rfl rfl (F [(0, _)] rfl ?_)))
  refine Y (Y (U (C rfl rfl ?_)))
  refine WS.call rfl rfl rfl (Great18_ran W.here (l := l) (A0.mono W.sub) (fun a ha => (hQ0 a ha).mono W.sub) k0) ?_
  rintro _ h1 ⟨g16, rfl, hg16, N2⟩
  have M3 := W.trans N2
  refine F [(0, _), (16, _)] rfl ?_
  cases hb1 : g16
  ·
   refine WC.condF rfl (WC.skip (Y (U ?_)))
   have hgl := hg16 (by assumption)
   refine WS.call rfl rfl rfl (New_ran M3.here) ?_
   rintro _ h4 ⟨p6, rfl, N7⟩
   have M5 := (M3.trans N7)
   replace M5 : Mem _ _ ([] :: [(p6, _)] :: []) _ := (M5).nils
   refine C rfl rfl (F [(0, _), (3, _)] rfl ?_)
   refine Y (U (C rfl rfl (F [(0, _), (3, _), (4, _)] rfl ?_)))
   refine Y (U (C rfl rfl (F [(0, _), (3, _), (4, _), (5, _)] rfl ?_)))
   refine Y (Y (U (C rfl rfl (F [(0, _), (3, _), (4, _), (5, _), (6, _)] rfl ?_))))
   refine WC.block ?_
   obtain ⟨L8, eL10, M9⟩ := Mem.name3 (((M5.bare.focus 1 rfl)).nils.focus 2 rfl)
   refine WC.loop (σ := Value × Seg × Tab × Value × Seg × List Dn × Nat × Nat) (fun ((V_, S_, T_, Va_, Sa_, al_, gv, i)) => [(0, (.slice Pl l.length nl)), (3, (.pointer (some ⟨p6, 0, none⟩))), (4, Va_), (5, (.int .u64 ((gv : Nat) : Int))), (6, (.int .i64 ((i : Nat) : Int)))]) (fun ((V_, S_, T_, Va_, Sa_, al_, gv, i)) hh => Mem h hh (S_ :: Sa_ :: [(p6, ⟨[V_, (.int .u64 (((T_.la).toNat : Nat) : Int))], 0, false⟩)] :: L8) [] ∧ KSes.Grow V_ (Tab.l T_) S_ ∧ KDn.Own Va_ al_ Sa_ ∧ Once h i T_ gv al_ ∧ i ≤ l.length ∧ gv < 18446744073709551616) (fun ((V_, S_, T_, Va_, Sa_, al_, gv, i)) => l.length - i) (_, _, ⟨[], 0⟩, _, _, [], 0, 0) rfl ⟨(by exact M9), ?_⟩ ?_
   · exact ⟨.nil, .nil, once_new, by omega, by omega⟩
   ·rintro ⟨V_, S_, T_, Va_, Sa_, al_, gv, i⟩ h11 ⟨M12, ⟨hO, hal, hR, hi, hgv64⟩⟩
    replace eL10 := eL10.symm; subst eL10
    refine WC.env [(0, _), (3, _), (4, _), (5, _), (6, _)] rfl ?_
    obtain ⟨Pa_, rfl⟩ := hal.shape
    have hali := hR.2.2.2.2
    refine Y (Y (U (C rfl rfl (C rfl rfl (C rfl (op_lenVS A0 rfl) ?_)))))
    refine WS.lssN (a := i) (b := (l).length) rfl rfl rfl (fun e22 => ?_) (fun e22 => ?_)
    ·
     refine F [(0, _), (3, _), (4, _), (5, _), (6, _), (22, _)] rfl ?_
     refine WC.condT rfl (WC.skip (Y (WC.block (Y (U (C rfl rfl (C rfl rfl ?_)))))))
     obtain ⟨y27, hy27⟩ : ∃ y, (l)[i]? = some y := ⟨_, List.getElem?_eq_getElem (show i < (l).length by first | omega | (simp only [List.length_drop, List.length_take, List.length_append, List.length_cons, List.length_nil, List.length_singleton]; omega) | (simp only [List.length_drop, List.length_take, List.length_append, List.length_cons, List.length_nil, List.length_singleton] at *; omega))⟩
     refine WS.iaVS A0 i hy27 rfl rfl rfl rfl ?_
     intro b27_ o27_ ha27
     refine C rfl (op_ldAt rfl (ha27.mono M12.sub) rfl) ?_
     refine WS.new M12 rfl ?_
     intro p13 h14 M15
     refine WS.st1 (M15.focus 0 rfl) [_, _, _, _, _, _, _] [_, _, _, _, _, _, _] rfl rfl rfl rfl rfl (J rfl) (J rfl) rfl rfl ?_
     intro h16 M17
     replace M17 : Mem _ _ ([(p13, _)] :: S_ :: Sa_ :: [(p6, _)] :: []) _ := M17
     refine F [(0, _), (3, _), (4, _), (5, _), (6, _), (7, _)] rfl ?_
     refine Y (U ?_)
     have hA27 := hgl.2 _ (List.mem_of_getElem? hy27)
     refine C rfl rfl (C rfl (op_ld (M17.at 0 rfl) rfl rfl) (F [(0, _), (3, _), (4, _), (5, _), (6, _), (7, _), (30, _)] rfl ?_))
     refine WC.block (Y (U (WS.eqlN (a := (y27.d).toNat) (b := 0) rfl rfl rfl (fun e32 => ?_) (fun e32 => ?_))))
     ·
      refine C rfl rfl (F [(0, _), (3, _), (4, _), (5, _), (6, _), (7, _), (30, _), (31, _)] rfl ?_)
      refine WC.condT rfl (Y (U (C rfl rfl (C rfl rfl (C rfl (op_ld (M17.at 0 rfl) rfl rfl) ?_)))))
      refine WS.call rfl rfl rfl (Open_ran (T := T_) (ttl := y27.n) hO ((M17.focus 3 rfl).focus 2 rfl) (by first | (have := hR.1.1; omega) | (have := (inv_look (i := y27.id) hR.1).1; omega))) ?_
      rintro _ h18 ⟨V20, S21, O22, rfl, M19⟩
      replace M19 : Mem _ _ (S21 :: [(p6, _)] :: [(p13, _)] :: Sa_ :: []) _ := M19
      refine C rfl rfl (C rfl rfl (C rfl rfl (C rfl rfl (C rfl rfl (F [(0, _), (3, _), (4, _), (5, _), (6, _), (8, _), (9, _)] rfl ?_)))))
      refine Y (Y (U ?_))
      have hoc := open_cases (ttl := y27.n) hR.1 (by omega)
      have hg2 := hR.2.1
      refine C rfl rfl ?_
      refine WS.eqlN (a := ((openT T_ y27.n).2.2).toNat) (b := 0) rfl rfl rfl (fun e41 => ?_) (fun e41 => ?_)
      ·
       refine C rfl rfl (C rfl rfl (C rfl rfl ?_))
       refine WS.leqN (a := ((openT T_ y27.n).2.1).toNat) (b := gv) rfl rfl rfl (fun e45 => ?_) (fun e45 => ?_)
       ·
        refine C rfl rfl (C rfl rfl (D rfl (D rfl (D rfl (D rfl (D rfl (D rfl (C rfl rfl (F [(0, _), (3, _), (4, _), (5, _), (6, _), (8, _), (54, _)] rfl ?_)))))))))
        refine WC.condT rfl (Y (U (C rfl rfl (F [(2, _)] rfl ?_))))
        refine WC.ret (⟨[_], (res_tmp rfl res_nil), ?_⟩)
        exfalso
        omega
       ·
        refine C rfl rfl (C rfl rfl (C rfl rfl ?_))
        refine WS.neqN (a := ((openT T_ y27.n).2.2).toNat) (b := 0) rfl rfl rfl (fun e49 => ?_) (fun e49 => ?_)
        ·
         refine C rfl rfl (C rfl rfl ?_)
         refine WS.neqN (a := ((openT T_ y27.n).2.1).toNat) (b := 0) rfl rfl rfl (fun e52 => ?_) (fun e52 => ?_)
         ·
          refine C rfl rfl (C rfl rfl (F [(0, _), (3, _), (4, _), (5, _), (6, _), (8, _), (54, _)] rfl ?_))
          refine WC.condT rfl (Y (U (C rfl rfl (F [(2, _)] rfl ?_))))
          refine WC.ret (⟨[_], (res_tmp rfl res_nil), ?_⟩)
          exfalso
          omega
         ·
          refine C rfl rfl (C rfl rfl (F [(0, _), (3, _), (4, _), (5, _), (6, _), (8, _), (54, _)] rfl ?_))
          refine WC.condF rfl (WC.skip (U (C rfl rfl (C rfl rfl (G (.int .u64 (((max gv (((openT T_ y27.n).2.1).toNat)) : Nat) : Int)) rfl rfl (mm_max (a := gv) (b := ((openT T_ y27.n).2.1).toNat)) (C rfl rfl (F [(0, _), (3, _), (4, _), (5, _), (6, _)] rfl ?_)))))))
          refine U (C rfl rfl (G (.int .i64 (((i + 1) : Nat) : Int)) rfl rfl (add_i64 (a := i) (b := 1) (by omega)) (C rfl rfl (F [(0, _), (3, _), (4, _), (5, _), (6, _)] rfl ?_))))
          refine ⟨(V20, S21, _, (.slice Pa_ al_.length (2 * al_.length)), Sa_, al_, (max gv (((openT T_ y27.n).2.1).toNat)), i + 1), rfl, ⟨((((M19.bare.focus 1 rfl).focus 3 rfl).focus 2 rfl).take 3), ?_⟩, ?_⟩
          · exact ⟨O22, hal, once_open hR (by omega), by omega, by have := (openT T_ y27.n).2.1.toNat_lt; omega⟩
          · simp only []; omega
        ·
         refine C rfl rfl (D rfl (D rfl (C rfl rfl (C rfl rfl (F [(0, _), (3, _), (4, _), (5, _), (6, _), (8, _), (54, _)] rfl ?_)))))
         refine WC.condF rfl (WC.skip (U (C rfl rfl (C rfl rfl (G (.int .u64 (((max gv (((openT T_ y27.n).2.1).toNat)) : Nat) : Int)) rfl rfl (mm_max (a := gv) (b := ((openT T_ y27.n).2.1).toNat)) (C rfl rfl (F [(0, _), (3, _), (4, _), (5, _), (6, _)] rfl ?_)))))))
         refine U (C rfl rfl (G (.int .i64 (((i + 1) : Nat) : Int)) rfl rfl (add_i64 (a := i) (b := 1) (by omega)) (C rfl rfl (F [(0, _), (3, _), (4, _), (5, _), (6, _)] rfl ?_))))
         refine ⟨(V20, S21, _, (.slice Pa_ al_.length (2 * al_.length)), Sa_, al_, (max gv (((openT T_ y27.n).2.1).toNat)), i + 1), rfl, ⟨((((M19.bare.focus 1 rfl).focus 3 rfl).focus 2 rfl).take 3), ?_⟩, ?_⟩
         · exact ⟨O22, hal, once_open hR (by omega), by omega, by have := (openT T_ y27.n).2.1.toNat_lt; omega⟩
         · simp only []; omega
      ·
       refine C rfl rfl (D rfl (D rfl (D rfl (C rfl rfl (C rfl rfl (C rfl rfl ?_))))))
       refine WS.neqN (a := ((openT T_ y27.n).2.2).toNat) (b := 0) rfl rfl rfl (fun e49 => ?_) (fun e49 => ?_)
       ·
        refine C rfl rfl (C rfl rfl ?_)
        refine WS.neqN (a := ((openT T_ y27.n).2.1).toNat) (b := 0) rfl rfl rfl (fun e52 => ?_) (fun e52 => ?_)
        ·
         refine C rfl rfl (C rfl rfl (F [(0, _), (3, _), (4, _), (5, _), (6, _), (8, _), (54, _)] rfl ?_))
         refine WC.condT rfl (Y (U (C rfl rfl (F [(2, _)] rfl ?_))))
         refine WC.ret (⟨[_], (res_tmp rfl res_nil), ?_⟩)
         exfalso
         omega
        ·
         refine C rfl rfl (C rfl rfl (F [(0, _), (3, _), (4, _), (5, _), (6, _), (8, _), (54, _)] rfl ?_))
         refine WC.condF rfl (WC.skip (U (C rfl rfl (C rfl rfl (G (.int .u64 (((max gv (((openT T_ y27.n).2.1).toNat)) : Nat) : Int)) rfl rfl (mm_max (a := gv) (b := ((openT T_ y27.n).2.1).toNat)) (C rfl rfl (F [(0, _), (3, _), (4, _), (5, _), (6, _)] rfl ?_)))))))
         refine U (C rfl rfl (G (.int .i64 (((i + 1) : Nat) : Int)) rfl rfl (add_i64 (a := i) (b := 1) (by omega)) (C rfl rfl (F [(0, _), (3, _), (4, _), (5, _), (6, _)] rfl ?_))))
         refine ⟨(V20, S21, _, (.slice Pa_ al_.length (2 * al_.length)), Sa_, al_, (max gv (((openT T_ y27.n).2.1).toNat)), i + 1), rfl, ⟨((((M19.bare.focus 1 rfl).focus 3 rfl).focus 2 rfl).take 3), ?_⟩, ?_⟩
         · exact ⟨O22, hal, once_open hR (by omega), by omega, by have := (openT T_ y27.n).2.1.toNat_lt; omega⟩
         · simp only []; omega
       ·
        refine C rfl rfl (D rfl (D rfl (C rfl rfl (C rfl rfl (F [(0, _), (3, _), (4, _), (5, _), (6, _), (8, _), (54, _)] rfl ?_)))))
        refine WC.condF rfl (WC.skip (U (C rfl rfl (C rfl rfl (G (.int .u64 (((max gv (((openT T_ y27.n).2.1).toNat)) : Nat) : Int)) rfl rfl (mm_max (a := gv) (b := ((openT T_ y27.n).2.1).toNat)) (C rfl rfl (F [(0, _), (3, _), (4, _), (5, _), (6, _)] rfl ?_)))))))
        refine U (C rfl rfl (G (.int .i64 (((i + 1) : Nat) : Int)) rfl rfl (add_i64 (a := i) (b := 1) (by omega)) (C rfl rfl (F [(0, _), (3, _), (4, _), (5, _), (6, _)] rfl ?_))))
        refine ⟨(V20, S21, _, (.slice Pa_ al_.length (2 * al_.length)), Sa_, al_, (max gv (((openT T_ y27.n).2.1).toNat)), i + 1), rfl, ⟨((((M19.bare.focus 1 rfl).focus 3 rfl).focus 2 rfl).take 3), ?_⟩, ?_⟩
        · exact ⟨O22, hal, once_open hR (by omega), by omega, by have := (openT T_ y27.n).2.1.toNat_lt; omega⟩
        · simp only []; omega
     ·
      refine C rfl rfl (F [(0, _), (3, _), (4, _), (5, _), (6, _), (7, _), (30, _), (31, _)] rfl ?_)
      refine WC.condF rfl (Y (U (WS.eqlN (a := (y27.d).toNat) (b := 1) rfl rfl rfl (fun e59 => ?_) (fun e59 => ?_))))
      ·
       refine C rfl rfl (F [(0, _), (3, _), (4, _), (5, _), (6, _), (7, _), (30, _), (58, _)] rfl ?_)
       refine WC.condT rfl (Y (U (C rfl rfl (C rfl rfl (C rfl (op_ld (M17.at 0 rfl) rfl rfl) (C rfl rfl (C rfl (op_ld (M17.at 0 rfl) rfl rfl) ?_)))))))
       refine WS.call rfl rfl rfl (Look_ran (T := T_) (i := y27.id) (sq := y27.n) hO ((M17.focus 3 rfl).focus 2 rfl) (by first | (have := hR.1.1; omega) | (have := (inv_look (i := y27.id) hR.1).1; omega)) (by exact inv_kp hR.1)) ?_
       rintro _ h23 ⟨V25, S26, T66, r66, V28, S29, ag66, cd66, O27, O30, rfl, hF66, hL66, M24⟩
       obtain ⟨P31, rfl⟩ := O30.shape
       obtain ⟨eT66, eR66⟩ := look_eq hF66 hL66
       subst eT66
       replace M24 : Mem _ _ (S26 :: S29 :: [(p6, _)] :: [(p13, _)] :: Sa_ :: []) _ := M24
       refine C rfl rfl (C rfl rfl (C rfl rfl (C rfl rfl ?_)))
       refine WS.new M24 rfl ?_
       intro p32 h33 M34
       refine WS.st1 (M34.focus 0 rfl) [_, _, _, _] [_, _, _, _] rfl rfl rfl rfl rfl (J rfl) (J rfl) rfl rfl ?_
       intro h35 M36
       replace M36 : Mem _ _ ([(p32, _)] :: S26 :: S29 :: [(p6, _)] :: [(p13, _)] :: Sa_ :: []) _ := M36
       refine C rfl rfl (C rfl rfl (F [(0, _), (3, _), (4, _), (5, _), (6, _), (7, _), (10, _), (11, _), (12, _)] rfl ?_))
       refine Y (U (G (.agg #[(.int .u64 (0 : Int)), (.int .u64 (0 : Int)), (.int .u8 (0 : Int)), (.int .u64 (0 : Int)), (.string (bs ([]))), (.slice none 0 0)]) rfl rfl rfl ?_))
       refine WS.new M36 rfl ?_
       intro p37 h38 M39
       refine WS.st1 (M39.focus 0 rfl) [_, _, _, _, _, _] [_, _, _, _, _, _] rfl rfl rfl rfl rfl (J rfl) (J rfl) rfl rfl ?_
       intro h40 M41
       replace M41 : Mem _ _ ([(p37, _)] :: [(p32, _)] :: S26 :: S29 :: [(p6, _)] :: [(p13, _)] :: Sa_ :: []) _ := M41
       refine F [(0, _), (3, _), (4, _), (5, _), (6, _), (7, _), (10, _), (11, _), (12, _), (13, _)] rfl ?_
       refine Y (Y (U (C rfl rfl (F [(0, _), (3, _), (4, _), (5, _), (6, _), (7, _), (10, _), (11, _), (12, _), (13, _), (14, _)] rfl ?_))))
       refine WC.block ?_
       obtain ⟨L42, eL44, M43⟩ := Mem.name1 (M41.bare.focus 0 rfl)
       refine WC.loop (σ := Dn × Nat) (fun ((X, k)) => [(0, (.slice Pl l.length nl)), (3, (.pointer (some ⟨p6, 0, none⟩))), (4, (.slice Pa_ al_.length (2 * al_.length))), (5, (.int .u64 ((gv : Nat) : Int))), (6, (.int .i64 ((i : Nat) : Int))), (7, (.pointer (some ⟨p13, 0, none⟩))), (10, (.pointer (some ⟨p32, 0, none⟩))), (11, (.bool ag66)), (12, (.int .u8 (((cd66).toNat : Nat) : Int))), (13, (.pointer (some ⟨p37, 0, none⟩))), (14, (.int .i64 ((k : Nat) : Int)))]) (fun ((X, k)) hh => Mem h hh ([(p37, ⟨[(.int .u64 (((X.di).toNat : Nat) : Int)), (.int .u64 (((X.ds).toNat : Nat) : Int)), (.int .u8 (((X.dc).toNat : Nat) : Int)), (.int .u64 (((X.dn).toNat : Nat) : Int)), (.string (bs X.dv)), (.slice X.drp.1 X.dr.length X.drp.2)], 0, false⟩)] :: L42) [] ∧ X = lastDn y27.id (al_.take k) zeroDn ∧ k ≤ al_.length) (fun ((X, k)) => al_.length - k) (zeroDn, 0) rfl ⟨(by exact M43), ?_⟩ ?_
       · exact ⟨rfl, by omega⟩
       ·rintro ⟨X, k⟩ h45 ⟨M46, ⟨hXe, hk⟩⟩
        replace eL44 := eL44.symm; subst eL44
        refine WC.env [(0, _), (3, _), (4, _), (5, _), (6, _), (7, _), (10, _), (11, _), (12, _), (13, _), (14, _)] rfl ?_
        refine Y (Y (U (C rfl rfl (C rfl rfl (C rfl (op_lenVO hal rfl) ?_)))))
        refine WS.lssN (a := k) (b := (al_).length) rfl rfl rfl (fun e74 => ?_) (fun e74 => ?_)
        ·
         refine F [(0, _), (3, _), (4, _), (5, _), (6, _), (7, _), (10, _), (11, _), (12, _), (13, _), (14, _), (74, _)] rfl ?_
         refine WC.condT rfl (WC.skip (Y (WC.block (Y (WC.draw M46 [] rfl ?_)))))
         intro rb47 h48 M49
         refine C rfl rfl (C rfl rfl ?_)
         obtain ⟨y79, hy79⟩ : ∃ y, (al_)[k]? = some y := ⟨_, List.getElem?_eq_getElem (show k < (al_).length by first | omega | (simp only [List.length_drop, List.length_take, List.length_append, List.length_cons, List.length_nil, List.length_singleton]; omega) | (simp only [List.length_drop, List.length_take, List.length_append, List.length_cons, List.length_nil, List.length_singleton] at *; omega))⟩
         refine WS.iaVS (Row.Own.sl hal (Mem.owni M49 6 rfl)) k hy79 rfl rfl rfl rfl ?_
         intro b79_ o79_ ha79
         refine C rfl rfl (C rfl (op_ldH rfl (At.ld0 ha79 rfl)) (C rfl rfl (C rfl (op_ld (M49.at 5 rfl) rfl rfl) ?_)))
         refine WS.eqlN (a := (y79.di).toNat) (b := (y27.id).toNat) rfl rfl rfl (fun e84 => ?_) (fun e84 => ?_)
         ·
          refine F [(0, _), (3, _), (4, _), (5, _), (6, _), (7, _), (10, _), (11, _), (12, _), (13, _), (14, _), (84, _)] rfl ?_
          refine WC.condT rfl (U (C rfl rfl (C rfl rfl ?_)))
          obtain ⟨y87, hy87⟩ : ∃ y, (al_)[k]? = some y := ⟨_, List.getElem?_eq_getElem (show k < (al_).length by first | omega | (simp only [List.length_drop, List.length_take, List.length_append, List.length_cons, List.length_nil, List.length_singleton]; omega) | (simp only [List.length_drop, List.length_take, List.length_append, List.length_cons, List.length_nil, List.length_singleton] at *; omega))⟩
          refine WS.iaVS (Row.Own.sl hal (Mem.owni M49.bare 6 rfl)) k hy87 rfl rfl rfl rfl ?_
          intro b87_ o87_ ha87
          refine C rfl (op_ldAt rfl ha87 rfl) ?_
          refine WS.st1 (M49.bare.focus 0 rfl) [_, _, _, _, _, _] [_, _, _, _, _, _] rfl rfl rfl rfl rfl (J rfl) (J rfl) rfl rfl ?_
          intro h50 M51
          replace M51 : Mem _ _ ([(p37, _)] :: [(p32, _)] :: S26 :: S29 :: [(p6, _)] :: [(p13, _)] :: Sa_ :: []) _ := M51
          refine F [(0, _), (3, _), (4, _), (5, _), (6, _), (7, _), (10, _), (11, _), (12, _), (13, _), (14, _)] rfl ?_
          refine U (C rfl rfl (G (.int .i64 (((k + 1) : Nat) : Int)) rfl rfl (add_i64 (a := k) (b := 1) (by omega)) (C rfl rfl (F [(0, _), (3, _), (4, _), (5, _), (6, _), (7, _), (10, _), (11, _), (12, _), (13, _), (14, _)] rfl ?_))))
          refine ⟨(y87, k + 1), rfl, ⟨((((((((M51.bare.focus 6 rfl).focus 6 rfl).focus 6 rfl).focus 6 rfl).focus 6 rfl).focus 6 rfl).focus 6 rfl).take 7), ?_⟩, ?_⟩
          · exact ⟨by (have hyy : y79 = y87 := Option.some.inj (hy79.symm.trans hy87)); rw [take_snocA hy79, lastDn_snoc, if_pos (u64_inj e84), hyy], by omega⟩
          · simp only []; omega
         ·
          refine F [(0, _), (3, _), (4, _), (5, _), (6, _), (7, _), (10, _), (11, _), (12, _), (13, _), (14, _), (84, _)] rfl ?_
          refine WC.condF rfl (WC.skip (U (C rfl rfl (G (.int .i64 (((k + 1) : Nat) : Int)) rfl rfl (add_i64 (a := k) (b := 1) (by omega)) (C rfl rfl (F [(0, _), (3, _), (4, _), (5, _), (6, _), (7, _), (10, _), (11, _), (12, _), (13, _), (14, _)] rfl ?_))))))
          refine ⟨(X, k + 1), rfl, ⟨((((((((M49.bare.bare.focus 6 rfl).focus 6 rfl).focus 6 rfl).focus 6 rfl).focus 6 rfl).focus 6 rfl).focus 6 rfl).take 7), ?_⟩, ?_⟩
          · exact ⟨by rw [take_snocA hy79, lastDn_snoc, if_neg (fun q => e84 (by rw [q]))]; exact hXe, by omega⟩
          · simp only []; omega
        ·
         refine F [(0, _), (3, _), (4, _), (5, _), (6, _), (7, _), (10, _), (11, _), (12, _), (13, _), (14, _), (74, _)] rfl ?_
         refine WC.condF rfl (WC.exit ?_)
         refine Y (Y (U ?_))
         have hXl : X = lastDn y27.id al_ zeroDn := by rw [hXe, List.take_of_length_le (by omega)]
         have hX := once_x (i := y27.id) hR
         rw [← hXl] at hX
         have hto := once_tells hR eR66
         rw [← hXl] at hto
         rcases hto with rfl | ⟨rfl, rfl, hr66, ho1⟩ | ⟨rfl, rfl, hr66, ho1, ho2⟩ | ⟨rfl, rfl, hr66, ho1, ho2, ho3⟩
         ·
          refine G (.int .u8 5) rfl rfl rfl (G (.bool true) rfl rfl rfl (F [(0, _), (3, _), (4, _), (5, _), (6, _), (7, _), (10, _), (11, _), (12, _), (13, _), (90, _)] rfl ?_))
          refine WC.condT rfl (WC.exit ?_)
          refine U (C rfl rfl (G (.int .i64 (((i + 1) : Nat) : Int)) rfl rfl (add_i64 (a := i) (b := 1) (by omega)) (C rfl rfl (F [(0, _), (3, _), (4, _), (5, _), (6, _)] rfl ?_))))
          refine ⟨(V25, S26, _, (.slice Pa_ al_.length (2 * al_.length)), Sa_, al_, gv, i + 1), rfl, ⟨((((M46.bare.focus 4 rfl).focus 6 rfl).focus 4 rfl).take 3), ?_⟩, ?_⟩
          · exact ⟨O27, hal, once_mono (once_look hR) (by omega), by omega, hgv64⟩
          · simp only []; omega
         ·
          refine G (.int .u8 6) rfl rfl rfl (G (.bool false) rfl rfl rfl (F [(0, _), (3, _), (4, _), (5, _), (6, _), (7, _), (10, _), (11, _), (12, _), (13, _), (90, _)] rfl ?_))
          refine WC.condF rfl (WC.skip (Y (Y (U (C rfl rfl (G (.bool true) rfl rfl rfl (C rfl rfl (C rfl (op_ld (M46.at 5 rfl) rfl rfl) ?_))))))))
          refine WS.eqlN (a := (y27.n).toNat) (b := 0) rfl rfl rfl (fun e95 => ?_) (fun e95 => ?_)
          ·
           refine C rfl rfl (D rfl (D rfl (D rfl (D rfl (D rfl (C rfl rfl (G (.bool false) rfl rfl rfl (C rfl rfl (C rfl rfl ?_)))))))))
           refine C rfl rfl (G (.bool false) rfl rfl rfl (C rfl rfl (D rfl (D rfl (D rfl (D rfl (D rfl (C rfl rfl (G (.bool false) rfl rfl rfl ?_)))))))))
           refine C rfl rfl (C rfl rfl (C rfl rfl (G (.bool true) rfl rfl rfl (C rfl rfl (C rfl (op_lds [_, _, _, _] (M46.at 1 rfl) rfl (J rfl) rfl) (G (.agg #[(.int .u8 (0 : Int)), (.int .u64 (0 : Int)), (.string (bs ([]))), (.slice none 0 0)]) rfl rfl rfl ?_))))))
           refine WS.call rfl rfl rfl (SameR_ran M46.here (a := r66) (b := (⟨0, 0, ([]), []⟩ : Res)) (Row.Own.sl O30 (Mem.owni M46 3 rfl)) Row.Sl.nil (by have := hF66.2.1; omega)) ?_
           rintro _ h52 ⟨rfl, N53⟩
           have M54 := M46.trans N53
           cases hb2 : (decide (r66 = (⟨0, 0, ([]), []⟩ : Res)))
           ·
            exact absurd (decide_eq_true (show r66 = (⟨0, 0, ([]), []⟩ : Res) from hr66)) (by rw [hb2]; decide)
           ·
            refine G (.bool false) rfl rfl rfl (C rfl rfl (C rfl rfl (C rfl rfl (C rfl rfl (C rfl rfl (D rfl (D rfl (D rfl (WS.offC rfl ?_)))))))))
            refine D rfl (C rfl rfl (C rfl rfl (F [(0, _), (3, _), (4, _), (5, _), (6, _), (7, _), (11, _), (12, _), (136, _)] rfl ?_)))
            refine WC.condF rfl (WC.skip (Y (U (C rfl rfl (G (.bool false) rfl rfl rfl (C rfl rfl (D rfl (D rfl (C rfl rfl (F [(0, _), (3, _), (4, _), (5, _), (6, _), (7, _), (142, _)] rfl ?_))))))))))
            refine WC.condF rfl (WC.skip (U (C rfl rfl (G (.int .i64 (((i + 1) : Nat) : Int)) rfl rfl (add_i64 (a := i) (b := 1) (by omega)) (C rfl rfl (F [(0, _), (3, _), (4, _), (5, _), (6, _)] rfl ?_))))))
            refine ⟨(V25, S26, _, (.slice Pa_ al_.length (2 * al_.length)), Sa_, al_, gv, i + 1), rfl, ⟨((((M54.bare.focus 4 rfl).focus 6 rfl).focus 4 rfl).take 3), ?_⟩, ?_⟩
            · exact ⟨O27, hal, once_mono (once_look hR) (by omega), by omega, hgv64⟩
            · simp only []; omega
          ·
           refine C rfl rfl (C rfl rfl (C rfl (op_ld (M46.at 5 rfl) rfl rfl) (C rfl rfl (C rfl (op_ld (M46.at 0 rfl) rfl rfl) ?_))))
           refine WS.lssN (a := (y27.n).toNat) (b := (X.ds).toNat) rfl rfl rfl (fun e101 => ?_) (fun e101 => ?_)
           ·
            refine C rfl rfl (G (.bool false) rfl rfl rfl (C rfl rfl (C rfl rfl (C rfl rfl (G (.bool false) rfl rfl rfl (C rfl rfl (D rfl (D rfl (D rfl ?_)))))))))
            refine D rfl (D rfl (C rfl rfl (G (.bool false) rfl rfl rfl (C rfl rfl (C rfl rfl (C rfl rfl (G (.bool true) rfl rfl rfl (C rfl rfl (C rfl (op_lds [_, _, _, _] (M46.at 1 rfl) rfl (J rfl) rfl) ?_)))))))))
            refine G (.agg #[(.int .u8 (0 : Int)), (.int .u64 (0 : Int)), (.string (bs ([]))), (.slice none 0 0)]) rfl rfl rfl ?_
            refine WS.call rfl rfl rfl (SameR_ran M46.here (a := r66) (b := (⟨0, 0, ([]), []⟩ : Res)) (Row.Own.sl O30 (Mem.owni M46 3 rfl)) Row.Sl.nil (by have := hF66.2.1; omega)) ?_
            rintro _ h55 ⟨rfl, N56⟩
            have M57 := M46.trans N56
            cases hb2 : (decide (r66 = (⟨0, 0, ([]), []⟩ : Res)))
            ·
             exact absurd (decide_eq_true (show r66 = (⟨0, 0, ([]), []⟩ : Res) from hr66)) (by rw [hb2]; decide)
            ·
             refine G (.bool false) rfl rfl rfl (C rfl rfl (C rfl rfl (C rfl rfl (C rfl rfl (C rfl rfl (D rfl (D rfl (D rfl (WS.offC rfl ?_)))))))))
             refine D rfl (C rfl rfl (C rfl rfl (F [(0, _), (3, _), (4, _), (5, _), (6, _), (7, _), (11, _), (12, _), (136, _)] rfl ?_)))
             refine WC.condF rfl (WC.skip (Y (U (C rfl rfl (G (.bool false) rfl rfl rfl (C rfl rfl (D rfl (D rfl (C rfl rfl (F [(0, _), (3, _), (4, _), (5, _), (6, _), (7, _), (142, _)] rfl ?_))))))))))
             refine WC.condF rfl (WC.skip (U (C rfl rfl (G (.int .i64 (((i + 1) : Nat) : Int)) rfl rfl (add_i64 (a := i) (b := 1) (by omega)) (C rfl rfl (F [(0, _), (3, _), (4, _), (5, _), (6, _)] rfl ?_))))))
             refine ⟨(V25, S26, _, (.slice Pa_ al_.length (2 * al_.length)), Sa_, al_, gv, i + 1), rfl, ⟨((((M57.bare.focus 4 rfl).focus 6 rfl).focus 4 rfl).take 3), ?_⟩, ?_⟩
             · exact ⟨O27, hal, once_mono (once_look hR) (by omega), by omega, hgv64⟩
             · simp only []; omega
           ·
            refine C rfl rfl (G (.bool true) rfl rfl rfl (C rfl rfl (D rfl (D rfl (D rfl (D rfl (D rfl (D rfl (D rfl ?_)))))))))
            refine D rfl (D rfl (D rfl (D rfl (C rfl rfl (C rfl rfl (D rfl (D rfl (D rfl (D rfl ?_)))))))))
            refine D rfl (WS.offC rfl (D rfl (D rfl (C rfl rfl (C rfl rfl (D rfl (D rfl (D rfl (D rfl ?_)))))))))
            refine D rfl (WS.offC rfl (D rfl (D rfl (C rfl rfl (F [(0, _), (3, _), (4, _), (5, _), (6, _), (7, _), (11, _), (12, _), (136, _)] rfl ?_)))))
            refine WC.condT rfl (Y (U (C rfl rfl (F [(2, _)] rfl ?_))))
            refine WC.ret (⟨[_], (res_tmp rfl res_nil), ?_⟩)
            exfalso
            omega
         ·
          refine G (.int .u8 0) rfl rfl rfl (G (.bool false) rfl rfl rfl (F [(0, _), (3, _), (4, _), (5, _), (6, _), (7, _), (10, _), (11, _), (12, _), (13, _), (90, _)] rfl ?_))
          refine WC.condF rfl (WC.skip (Y (Y (U (C rfl rfl (G (.bool false) rfl rfl rfl (C rfl rfl (C rfl (op_ld (M46.at 5 rfl) rfl rfl) ?_))))))))
          refine WS.eqlN (a := (y27.n).toNat) (b := 0) rfl rfl rfl (fun e95 => ?_) (fun e95 => ?_)
          ·
           refine C rfl rfl (D rfl (D rfl (D rfl (D rfl (D rfl (C rfl rfl (G (.bool true) rfl rfl rfl (C rfl rfl (D rfl ?_)))))))))
           refine D rfl (D rfl (D rfl (D rfl (D rfl (D rfl (D rfl (D rfl (D rfl (D rfl ?_)))))))))
           refine C rfl rfl (C rfl rfl (D rfl (D rfl (D rfl (D rfl (D rfl (WS.offC rfl (D rfl (D rfl ?_)))))))))
           refine C rfl rfl (C rfl rfl (D rfl (D rfl (D rfl (D rfl (D rfl (WS.offC rfl (D rfl (D rfl ?_)))))))))
           refine C rfl rfl (F [(0, _), (3, _), (4, _), (5, _), (6, _), (7, _), (11, _), (12, _), (136, _)] rfl ?_)
           refine WC.condT rfl (Y (U (C rfl rfl (F [(2, _)] rfl ?_))))
           refine WC.ret (⟨[_], (res_tmp rfl res_nil), ?_⟩)
           exfalso
           omega
          ·
           refine C rfl rfl (C rfl rfl (C rfl (op_ld (M46.at 5 rfl) rfl rfl) (C rfl rfl (C rfl (op_ld (M46.at 0 rfl) rfl rfl) ?_))))
           refine WS.lssN (a := (y27.n).toNat) (b := (X.ds).toNat) rfl rfl rfl (fun e101 => ?_) (fun e101 => ?_)
           ·
            refine C rfl rfl (G (.bool true) rfl rfl rfl (C rfl rfl (D rfl (D rfl (D rfl (D rfl (D rfl (D rfl (D rfl ?_)))))))))
            refine D rfl (D rfl (D rfl (D rfl (C rfl rfl (C rfl rfl (D rfl (D rfl (D rfl (D rfl ?_)))))))))
            refine D rfl (WS.offC rfl (D rfl (D rfl (C rfl rfl (C rfl rfl (D rfl (D rfl (D rfl (D rfl ?_)))))))))
            refine D rfl (WS.offC rfl (D rfl (D rfl (C rfl rfl (F [(0, _), (3, _), (4, _), (5, _), (6, _), (7, _), (11, _), (12, _), (136, _)] rfl ?_)))))
            refine WC.condT rfl (Y (U (C rfl rfl (F [(2, _)] rfl ?_))))
            refine WC.ret (⟨[_], (res_tmp rfl res_nil), ?_⟩)
            exfalso
            omega
           ·
            refine C rfl rfl (G (.bool false) rfl rfl rfl (C rfl rfl (C rfl rfl (C rfl rfl (G (.bool true) rfl rfl rfl (C rfl rfl (C rfl rfl (C rfl (op_ld (M46.at 5 rfl) rfl rfl) (C rfl rfl ?_)))))))))
            refine C rfl (op_ld (M46.at 0 rfl) rfl rfl) ?_
            refine WS.eqlN (a := (y27.n).toNat) (b := (X.ds).toNat) rfl rfl rfl (fun e113 => ?_) (fun e113 => ?_)
            ·
             refine C rfl rfl (G (.bool false) rfl rfl rfl (C rfl rfl (C rfl rfl (C rfl rfl (G (.bool false) rfl rfl rfl (C rfl rfl (D rfl (D rfl (WS.offC rfl ?_)))))))))
             refine D rfl (C rfl rfl (C rfl rfl (C rfl rfl (C rfl rfl (C rfl rfl (C rfl (op_lds [_, _, _, _] (M46.at 1 rfl) rfl (J rfl) rfl) (C rfl rfl (C rfl (op_lds [_, _, _, _] (M46.at 0 rfl) rfl (J rfl) rfl) ?_))))))))
             refine WS.call rfl rfl rfl (SameR_ran M46.here (a := r66) (b := (⟨X.dc, X.dn, X.dv, X.dr⟩ : Res)) (Row.Own.sl O30 (Mem.owni M46 3 rfl)) (hX.1.mono M46.sub) (by have := hF66.2.1; omega)) ?_
             rintro _ h58 ⟨rfl, N59⟩
             have M60 := M46.trans N59
             cases hb3 : (decide (r66 = (⟨X.dc, X.dn, X.dv, X.dr⟩ : Res)))
             ·
              exact absurd (decide_eq_true (show r66 = (⟨X.dc, X.dn, X.dv, X.dr⟩ : Res) from hr66)) (by rw [hb3]; decide)
             ·
              refine G (.bool false) rfl rfl rfl (C rfl rfl (C rfl rfl (F [(0, _), (3, _), (4, _), (5, _), (6, _), (7, _), (11, _), (12, _), (136, _)] rfl ?_)))
              refine WC.condF rfl (WC.skip (Y (U (C rfl rfl (G (.bool true) rfl rfl rfl (C rfl rfl (C rfl rfl (G (.bool false) rfl rfl rfl (C rfl rfl (F [(0, _), (3, _), (4, _), (5, _), (6, _), (7, _), (142, _)] rfl ?_))))))))))
              refine WC.condF rfl (WC.skip (U (C rfl rfl (G (.int .i64 (((i + 1) : Nat) : Int)) rfl rfl (add_i64 (a := i) (b := 1) (by omega)) (C rfl rfl (F [(0, _), (3, _), (4, _), (5, _), (6, _)] rfl ?_))))))
              refine ⟨(V25, S26, _, (.slice Pa_ al_.length (2 * al_.length)), Sa_, al_, gv, i + 1), rfl, ⟨((((M60.bare.focus 4 rfl).focus 6 rfl).focus 4 rfl).take 3), ?_⟩, ?_⟩
              · exact ⟨O27, hal, once_mono (once_look hR) (by omega), by omega, hgv64⟩
              · simp only []; omega
            ·
             refine C rfl rfl (G (.bool true) rfl rfl rfl (C rfl rfl (C rfl rfl (D rfl (D rfl (D rfl (D rfl (D rfl (WS.offC rfl ?_)))))))))
             refine D rfl (D rfl (C rfl rfl (C rfl rfl (D rfl (D rfl (D rfl (D rfl (D rfl (WS.offC rfl ?_)))))))))
             refine D rfl (D rfl (C rfl rfl (F [(0, _), (3, _), (4, _), (5, _), (6, _), (7, _), (11, _), (12, _), (136, _)] rfl ?_)))
             refine WC.condT rfl (Y (U (C rfl rfl (F [(2, _)] rfl ?_))))
             refine WC.ret (⟨[_], (res_tmp rfl res_nil), ?_⟩)
             exfalso
             omega
         ·
          refine G (.int .u8 0) rfl rfl rfl (G (.bool false) rfl rfl rfl (F [(0, _), (3, _), (4, _), (5, _), (6, _), (7, _), (10, _), (11, _), (12, _), (13, _), (90, _)] rfl ?_))
          refine WC.condF rfl (WC.skip (Y (Y (U (C rfl rfl (G (.bool false) rfl rfl rfl (C rfl rfl (C rfl (op_ld (M46.at 5 rfl) rfl rfl) ?_))))))))
          refine WS.eqlN (a := (y27.n).toNat) (b := 0) rfl rfl rfl (fun e95 => ?_) (fun e95 => ?_)
          ·
           refine C rfl rfl (D rfl (D rfl (D rfl (D rfl (D rfl (C rfl rfl (G (.bool true) rfl rfl rfl (C rfl rfl (D rfl ?_)))))))))
           refine D rfl (D rfl (D rfl (D rfl (D rfl (D rfl (D rfl (D rfl (D rfl (D rfl ?_)))))))))
           refine C rfl rfl (C rfl rfl (D rfl (D rfl (D rfl (D rfl (D rfl (WS.offC rfl (D rfl (D rfl ?_)))))))))
           refine C rfl rfl (C rfl rfl (D rfl (D rfl (D rfl (D rfl (D rfl (WS.offC rfl (D rfl (D rfl ?_)))))))))
           refine C rfl rfl (F [(0, _), (3, _), (4, _), (5, _), (6, _), (7, _), (11, _), (12, _), (136, _)] rfl ?_)
           refine WC.condT rfl (Y (U (C rfl rfl (F [(2, _)] rfl ?_))))
           refine WC.ret (⟨[_], (res_tmp rfl res_nil), ?_⟩)
           exfalso
           omega
          ·
           refine C rfl rfl (C rfl rfl (C rfl (op_ld (M46.at 5 rfl) rfl rfl) (C rfl rfl (C rfl (op_ld (M46.at 0 rfl) rfl rfl) ?_))))
           refine WS.lssN (a := (y27.n).toNat) (b := (X.ds).toNat) rfl rfl rfl (fun e101 => ?_) (fun e101 => ?_)
           ·
            refine C rfl rfl (G (.bool true) rfl rfl rfl (C rfl rfl (D rfl (D rfl (D rfl (D rfl (D rfl (D rfl (D rfl ?_)))))))))
            refine D rfl (D rfl (D rfl (D rfl (C rfl rfl (C rfl rfl (D rfl (D rfl (D rfl (D rfl ?_)))))))))
            refine D rfl (WS.offC rfl (D rfl (D rfl (C rfl rfl (C rfl rfl (D rfl (D rfl (D rfl (D rfl ?_)))))))))
            refine D rfl (WS.offC rfl (D rfl (D rfl (C rfl rfl (F [(0, _), (3, _), (4, _), (5, _), (6, _), (7, _), (11, _), (12, _), (136, _)] rfl ?_)))))
            refine WC.condT rfl (Y (U (C rfl rfl (F [(2, _)] rfl ?_))))
            refine WC.ret (⟨[_], (res_tmp rfl res_nil), ?_⟩)
            exfalso
            omega
           ·
            refine C rfl rfl (G (.bool false) rfl rfl rfl (C rfl rfl (C rfl rfl (C rfl rfl (G (.bool true) rfl rfl rfl (C rfl rfl (C rfl rfl (C rfl (op_ld (M46.at 5 rfl) rfl rfl) (C rfl rfl ?_)))))))))
            refine C rfl (op_ld (M46.at 0 rfl) rfl rfl) ?_
            refine WS.eqlN (a := (y27.n).toNat) (b := (X.ds).toNat) rfl rfl rfl (fun e113 => ?_) (fun e113 => ?_)
            ·
             refine C rfl rfl (G (.bool true) rfl rfl rfl (C rfl rfl (C rfl rfl (D rfl (D rfl (D rfl (D rfl (D rfl (WS.offC rfl ?_)))))))))
             refine D rfl (D rfl (C rfl rfl (C rfl rfl (D rfl (D rfl (D rfl (D rfl (D rfl (WS.offC rfl ?_)))))))))
             refine D rfl (D rfl (C rfl rfl (F [(0, _), (3, _), (4, _), (5, _), (6, _), (7, _), (11, _), (12, _), (136, _)] rfl ?_)))
             refine WC.condT rfl (Y (U (C rfl rfl (F [(2, _)] rfl ?_))))
             refine WC.ret (⟨[_], (res_tmp rfl res_nil), ?_⟩)
             exfalso
             omega
            ·
             refine C rfl rfl (G (.bool false) rfl rfl rfl (C rfl rfl (C rfl rfl (C rfl rfl (G (.bool true) rfl rfl rfl (C rfl rfl (C rfl (op_lds [_, _, _, _] (M46.at 1 rfl) rfl (J rfl) rfl) (G (.agg #[(.int .u8 (0 : Int)), (.int .u64 (0 : Int)), (.string (bs ([]))), (.slice none 0 0)]) rfl rfl rfl ?_))))))))
             refine WS.call rfl rfl rfl (SameR_ran M46.here (a := r66) (b := (⟨0, 0, ([]), []⟩ : Res)) (Row.Own.sl O30 (Mem.owni M46 3 rfl)) Row.Sl.nil (by have := hF66.2.1; omega)) ?_
             rintro _ h61 ⟨rfl, N62⟩
             have M63 := M46.trans N62
             cases hb2 : (decide (r66 = (⟨0, 0, ([]), []⟩ : Res)))
             ·
              exact absurd (decide_eq_true (show r66 = (⟨0, 0, ([]), []⟩ : Res) from hr66)) (by rw [hb2]; decide)
             ·
              refine G (.bool false) rfl rfl rfl (C rfl rfl (C rfl rfl (C rfl rfl (C rfl rfl (C rfl rfl (D rfl (D rfl (D rfl (WS.offC rfl ?_)))))))))
              refine D rfl (C rfl rfl (C rfl rfl (F [(0, _), (3, _), (4, _), (5, _), (6, _), (7, _), (11, _), (12, _), (136, _)] rfl ?_)))
              refine WC.condF rfl (WC.skip (Y (U (C rfl rfl (G (.bool true) rfl rfl rfl (C rfl rfl (C rfl rfl (G (.bool true) rfl rfl rfl (C rfl rfl (F [(0, _), (3, _), (4, _), (5, _), (6, _), (7, _), (142, _)] rfl ?_))))))))))
              refine WC.condT rfl (Y (U (C rfl rfl (C rfl rfl (C rfl (op_ld (M63.at 5 rfl) rfl rfl) (C rfl rfl (C rfl (op_ld (M63.at 5 rfl) rfl rfl) (C rfl rfl (C rfl (op_lds [_, _, _, _] (M63.at 5 rfl) rfl (J rfl) rfl) ?_)))))))))
              refine WS.call rfl rfl rfl (Keep_ran (T := (lookT T_ y27.id)) (i := y27.id) (sq := y27.n) (r := (⟨y27.rc, y27.rn, y27.rv, y27.rr⟩ : Res)) O27 ((M63.focus 4 rfl).focus 3 rfl) (hQ0 _ (List.mem_of_getElem? hy27)) (by exact hA27.1) (by first | (have := hR.1.1; omega) | (have := (inv_look (i := y27.id) hR.1).1; omega))) ?_
              rintro _ h64 ⟨V66, S67, O68, rfl, M65⟩
              replace M65 : Mem _ _ (S67 :: [(p6, _)] :: [(p37, _)] :: [(p32, _)] :: S29 :: [(p13, _)] :: Sa_ :: []) _ := M65
              refine F [(0, _), (3, _), (4, _), (5, _), (6, _), (7, _)] rfl ?_
              refine U ?_
              have hkk := once_keep (d := ⟨y27.id, y27.n, y27.rc, y27.rn, y27.rv, y27.rr, y27.rrp⟩) (once_look (i := y27.id) hR) rfl rfl hA27.1 hA27.2.1 (hQ0 _ (List.mem_of_getElem? hy27)) ho3 (by rw [← hXl]; exact ho2)
              refine C rfl rfl (C rfl rfl (C rfl (op_ld (M65.at 5 rfl) rfl rfl) (C rfl rfl (C rfl (op_ld (M65.at 5 rfl) rfl rfl) (C rfl rfl (C rfl (op_lds [_, _, _, _] (M65.at 5 rfl) rfl (J rfl) rfl) (G (.agg #[(.int .u64 (((y27.id).toNat : Nat) : Int)), (.int .u64 (((y27.n).toNat : Nat) : Int)), (.int .u8 (((y27.rc).toNat : Nat) : Int)), (.int .u64 (((y27.rn).toNat : Nat) : Int)), (.string (bs y27.rv)), (.slice y27.rrp.1 y27.rr.length y27.rrp.2)]) rfl rfl rfl ?_)))))))
              refine WS.bsl M65 [_, _, _, _, _, _] rfl rfl rfl rfl ?_
              intro p69 h70 M71
              refine WS.app (l := al_) (m := [(⟨y27.id, y27.n, y27.rc, y27.rn, y27.rv, y27.rr, (y27.rrp.1, y27.rrp.2)⟩ : Dn)]) (hal) (M71.focus 7 rfl) (Row.Src.one (K := KDn) (m := [(⟨y27.id, y27.n, y27.rc, y27.rn, y27.rv, y27.rr, (y27.rrp.1, y27.rrp.2)⟩ : Dn)]) (M71.at 0 rfl)) rfl (by simp only [List.length_cons, List.length_nil]; omega) (by simp only [List.length_cons, List.length_nil]; omega) rfl rfl rfl ?_
              intro V72 S73 h74 O75 M76
              obtain ⟨P77, rfl⟩ := Row.Own.shape O75
              refine C rfl rfl (F [(0, _), (3, _), (4, _), (5, _), (6, _)] rfl ?_)
              refine U (C rfl rfl (G (.int .i64 (((i + 1) : Nat) : Int)) rfl rfl (add_i64 (a := i) (b := 1) (by omega)) (C rfl rfl (F [(0, _), (3, _), (4, _), (5, _), (6, _)] rfl ?_))))
              refine ⟨(V66, S67, _, (.slice P77 ((al_ ++ [(⟨y27.id, y27.n, y27.rc, y27.rn, y27.rv, y27.rr, (y27.rrp.1, y27.rrp.2)⟩ : Dn)])).length (2 * ((al_ ++ [(⟨y27.id, y27.n, y27.rc, y27.rn, y27.rv, y27.rr, (y27.rrp.1, y27.rrp.2)⟩ : Dn)])).length)), S73, (al_ ++ [(⟨y27.id, y27.n, y27.rc, y27.rn, y27.rv, y27.rr, (y27.rrp.1, y27.rrp.2)⟩ : Dn)]), gv, i + 1), rfl, ⟨((((M76.bare.focus 3 rfl).focus 1 rfl).focus 3 rfl).take 3), ?_⟩, ?_⟩
              · exact ⟨O68, O75, hkk, by omega, hgv64⟩
              · simp only []; omega
      ·
       refine C rfl rfl (F [(0, _), (3, _), (4, _), (5, _), (6, _), (7, _), (30, _), (58, _)] rfl ?_)
       refine WC.condF rfl (Y (U (WS.eqlN (a := (y27.d).toNat) (b := 3) rfl rfl rfl (fun e162 => ?_) (fun e162 => ?_))))
       ·
        refine C rfl rfl (F [(0, _), (3, _), (4, _), (5, _), (6, _), (161, _)] rfl ?_)
        refine WC.condT rfl (U (C rfl rfl ?_))
        refine WS.call rfl rfl rfl (Tick_ran (T := T_)  hO ((M17.focus 3 rfl).focus 2 rfl) (by first | (have := hR.1.1; omega) | (have := (inv_look (i := y27.id) hR.1).1; omega))) ?_
        rintro _ h78 ⟨V80, S81, O82, rfl, M79⟩
        replace M79 : Mem _ _ (S81 :: [(p6, _)] :: [(p13, _)] :: Sa_ :: []) _ := M79
        refine F [(0, _), (3, _), (4, _), (5, _), (6, _)] rfl ?_
        refine U (C rfl rfl (G (.int .i64 (((i + 1) : Nat) : Int)) rfl rfl (add_i64 (a := i) (b := 1) (by omega)) (C rfl rfl (F [(0, _), (3, _), (4, _), (5, _), (6, _)] rfl ?_))))
        refine ⟨(V80, S81, _, (.slice Pa_ al_.length (2 * al_.length)), Sa_, al_, gv, i + 1), rfl, ⟨((((M79.bare.focus 1 rfl).focus 3 rfl).focus 2 rfl).take 3), ?_⟩, ?_⟩
        · exact ⟨O82, hal, once_mono (once_tick hR) (by omega), by omega, hgv64⟩
        · simp only []; omega
       ·
        refine C rfl rfl (F [(0, _), (3, _), (4, _), (5, _), (6, _), (161, _)] rfl ?_)
        refine WC.condF rfl (WC.skip (U (C rfl rfl (G (.int .i64 (((i + 1) : Nat) : Int)) rfl rfl (add_i64 (a := i) (b := 1) (by omega)) (C rfl rfl (F [(0, _), (3, _), (4, _), (5, _), (6, _)] rfl ?_))))))
        refine ⟨(V_, S_, _, (.slice Pa_ al_.length (2 * al_.length)), Sa_, al_, gv, i + 1), rfl, ⟨((((M17.bare.focus 3 rfl).focus 3 rfl).focus 3 rfl).take 3), ?_⟩, ?_⟩
        · exact ⟨hO, hal, once_mono hR (by omega), by omega, hgv64⟩
        · simp only []; omega
    ·
     refine F [(0, _), (3, _), (4, _), (5, _), (6, _), (22, _)] rfl ?_
     refine WC.condF rfl (WC.exit ?_)
     refine Y (U (WS.call rfl rfl rfl (awake18_ran M12.here ) ?_))
     rintro _ h83 ⟨rfl, N84⟩
     have M85 := M12.trans N84
     refine C rfl rfl (F [(2, _)] rfl ?_)
     refine WC.ret (⟨[_], (res_tmp rfl res_nil), ?_⟩)
     rfl
  ·
   refine WC.condT rfl (Y (U (WS.call rfl rfl rfl (awake18_ran M3.here ) ?_)))
   rintro _ h86 ⟨rfl, N87⟩
   have M88 := M3.trans N87
   refine C rfl rfl (F [(2, _)] rfl ?_)
   refine WC.ret (⟨[_], (res_tmp rfl res_nil), ?_⟩)
   rfl
end Go.Proofs.Ytomaijljeacpjaa.Wt
