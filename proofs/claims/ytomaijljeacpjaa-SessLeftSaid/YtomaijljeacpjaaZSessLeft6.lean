/- The law 'SessLeft' returns true for all arguments: what its proof stands on, part 6. -/
import Derived.Test.YtomaijljeacpjaaZSessLeft5
import Derived.OpenShut
namespace Go.Proofs.Ytomaijljeacpjaa.Am
open Go
set_option linter.unusedVariables false
set_option linter.unusedSimpArgs false
abbrev BL := List (Option Blk × Option Am.Loc)
def CompR (r : Rho) (k : Nat) (bl : BL) : Prop := ∀ i p, bl[i]? = some p → r (k + i) = p.2
def CompH (h : H) (k : Nat) (bl : BL) : Prop := ∀ i p, bl[i]? = some p → ∀ B, p.1 = some B → h.get (k + i) = some B
def BlkOK (W : World) (r : Rho) (p : Option Blk × Option Am.Loc) : Prop := ∀ B, p.1 = some B → ∃ L c e fz, p.2 = some L ∧ W.heap[L.b]? = some (.cells c e fz) ∧ L.es = B.es ∧ B.cells.length ≤ L.lim ∧ L.o + L.lim ≤ c.size ∧ B.ro = true ∧
  ∀ (i : Nat) (v : Value), B.cells[i]? = some v → v.oneCell' = true ∧ ∃ v', c[L.o + i]? = some v' ∧ VR r v v'
theorem CompR.left {r : Rho} {k : Nat} {a b : BL} (h : CompR r k (a ++ b)) : CompR r k a := fun i p hp => h i p (by rw [List.getElem?_append_left (List.getElem?_eq_some_iff.1 hp).1]; exact hp)
theorem CompR.right {r : Rho} {k : Nat} {a b : BL} (h : CompR r k (a ++ b)) : CompR r (k + a.length) b := fun i p hp => by
  have := h (a.length + i) p (by rw [List.getElem?_append_right (by omega), Nat.add_sub_cancel_left]; exact hp)
  rw [← this]; congr 1; omega
theorem CompH.left {r : H} {k : Nat} {a b : BL} (h : CompH r k (a ++ b)) : CompH r k a := fun i p hp => h i p (by rw [List.getElem?_append_left (List.getElem?_eq_some_iff.1 hp).1]; exact hp)
theorem CompH.right {r : H} {k : Nat} {a b : BL} (h : CompH r k (a ++ b)) : CompH r (k + a.length) b := fun i p hp B hB => by
  have := h (a.length + i) p (by rw [List.getElem?_append_right (by omega), Nat.add_sub_cancel_left]; exact hp) B hB
  rw [← this]; congr 1; omega
abbrev Lay (α : Type) := H → α → List Value → Prop
def Given (W : World) (k n : Nat) {α : Type} (L : Lay α) (ok : α → Prop) (cs : List Value) : Prop :=
  ∃ (a : α) (bl : BL) (acs : List Value), acs.length = n ∧ acs.all (·.oneCell') = true ∧ (∀ r, CompR r k bl → (∀ p ∈ bl, BlkOK W r p) ∧ VL r acs cs) ∧ (∀ h, CompH h k bl → L h a acs) ∧ ok a
def OpensL (P : Program) (t : TypeId) {α : Type} (L : Lay α) (n : Nat) (ok : α → Prop) : Prop :=
  P.cellsOf t = n ∧ ∀ {Hh : Type} (enc : TypeId × Value → Hh) (W : World) (held : Bool) (fuel : Nat) (cs : List Value) (x : DataW Hh × List MemPlace), DataW.trod enc P W 0 (fun _ => true) held fuel t cs = some x → ∀ k, Given W k n L ok cs
section
variable {P : Program} {t e : TypeId}
theorem given_plain {W : World} {k : Nat} {α : Type} {L : Lay α} {ok : α → Prop} {v : Value} (a : α) (hp : plain1 v = true) (hL : ∀ h, L h a [v]) (ho : ok a) : Given W k 1 L ok [v] :=
  ⟨a, [], [v], rfl, by simp [oneCell_of_plain1 hp], fun r _ => ⟨fun p hp => by simp at hp, VL.cons (VR.of_plain1 hp) (VL.nil r)⟩, fun h _ => hL h, ho⟩
def layU8 : Lay UInt8 := fun _ a cs => cs = [.int .u8 ((a.toNat : Nat) : Int)]
theorem OpensL.u8 (ht : P.underlying t = some (.int .u8)) (hc : P.cellsOf t = 1) : OpensL P t layU8 1 (fun _ => True) := by
  refine ⟨hc, fun enc W held fuel cs x h k => ?_⟩
  obtain ⟨n, rfl, _, hw⟩ := DataW.trod_int ht h
  have hw : 0 ≤ n ∧ n ≤ 255 := by simpa [Lit.wf, IntKind.min, IntKind.max, IntKind.signed, IntKind.bits] using hw
  have e : n = (((UInt8.ofNat n.toNat).toNat : Nat) : Int) := by rw [UInt8.toNat_ofNat']; omega
  exact given_plain (UInt8.ofNat n.toNat) rfl (fun _ => by show _ = _; rw [← e]) trivial
inductive SlL {α : Type} (L : Lay α) (n : Nat) (h : H) : Value → List α → Prop
  | nil : SlL L n h (.slice none 0 0) []
  | emp (a : Addr) (c : Nat) : SlL L n h (.slice (some a) 0 c) []
  | row (b c : Nat) (l : List α) (cells : List Value) (hg : h.get b = some ⟨cells, n, true⟩) (hl : cells.length = l.length * n) (he : ∀ (j : Nat) (y : α), l[j]? = some y → L h y ((cells.drop (j * n)).take n)) : SlL L n h (.slice (some ⟨b, 0, none⟩) l.length c) l
def laySl {α : Type} (L : Lay α) (n : Nat) : Lay (List α) := fun h l cs => ∃ V, cs = [V] ∧ SlL L n h V l
theorem chunk_append {α : Type} {a b : List α} {n q j : Nat} (ha : a.length = q * n) (hj : j < q) : ((a ++ b).drop (j * n)).take n = (a.drop (j * n)).take n := by
  have : (j + 1) * n ≤ q * n := Nat.mul_le_mul_right n (by omega)
  rw [Nat.add_mul, Nat.one_mul] at this
  rw [List.drop_append_of_le_length (by omega), List.take_append_of_le_length (by rw [List.length_drop]; omega)]
theorem chunk_last {α : Type} {a b : List α} {n q : Nat} (ha : a.length = q * n) (hb : b.length = n) : ((a ++ b).drop (q * n)).take n = b := by
  rw [← ha, List.drop_left, List.take_of_length_le (by omega)]
theorem OpensL.slice {α : Type} {L : Lay α} {n : Nat} {ok : α → Prop} (ht : P.underlying t = some (.slice e)) (hct : P.cellsOf t = 1) (hn : 0 < n) (h : OpensL P e L n ok) : OpensL P t (laySl L n) 1 (fun l => l.length < 9223372036854775808 ∧ ∀ x ∈ l, ok x) := by
  obtain ⟨hc, h⟩ := h
  refine ⟨hct, fun {Hh} enc W held fuel cs x hx k => ?_⟩
  rcases Go.Deep.open_slice ht hx with ⟨rfl, _⟩ | ⟨a, len, cap, m, fu, D, Pl, rfl, hb, hl, hm, hmm, _, hel⟩
  · exact ⟨[], [], [.slice none 0 0], rfl, rfl, fun r _ => ⟨fun p hp => by simp at hp, VL.cons .sl0 (VL.nil r)⟩, fun h _ => ⟨_, rfl, .nil⟩, by simp, by simp⟩
  have hmc : m = cap := by simpa using hmm
  subst hmc
  have hmx : m ≤ 9223372036854775807 := hm
  by_cases hlen : len = 0
  · subst hlen
    by_cases hcap : m = 0
    · subst hcap
      exact ⟨[], [], [.slice (some ⟨0, 0, none⟩) 0 1], rfl, rfl, fun r _ => ⟨fun p hp => by simp at hp, VL.cons (.sl (.inr rfl) (Nat.le_refl _) (by omega) (fun _ => rfl) (fun q => by omega)) (VL.nil r)⟩, fun h _ => ⟨_, rfl, .emp _ _⟩, by simp, by simp⟩
    ·
      obtain ⟨cs0, g0, _⟩ := hel 0 (by omega)
      have g4 := (World.cells?_some g0).2.2 0 (by rw [hc]; exact hn)
      have hl0 := (World.cells?_some g0).2.1
      obtain ⟨v0, hv0⟩ : ∃ v, cs0[0]? = some v := ⟨_, List.getElem?_eq_getElem (by rw [hl0, hc]; exact hn)⟩
      rw [hv0] at g4
      obtain ⟨hs, _⟩ := cell_heap g4
      have hspot : a.spot = none := by
        have : (a.add (0 * P.cellsOf e)).add 0 = a := by rw [Nat.zero_mul]; rfl
        rw [this] at hs; exact hs
      refine ⟨[], [(none, some ⟨a.block, a.off, 0, n⟩)], [.slice (some ⟨k, 0, none⟩) 0 (2 * m + 1)], rfl, rfl, fun r hr => ⟨fun p hp B hB => (by simp at hp; subst hp; cases hB), VL.cons (.sl (.inl ⟨rfl, _, hr 0 _ rfl, ?_⟩) (by omega) (by omega) (fun _ => by omega) (fun q => by omega)) (VL.nil r)⟩, fun h _ => ⟨_, rfl, .emp _ _⟩, by simp, by simp⟩
      obtain ⟨ab, ao, asp⟩ := a
      simp only at hspot; subst hspot; rfl
  have hq : ∀ q, q ≤ len → ∃ (l : List α) (bl : BL) (acs : List Value), l.length = q ∧ acs.length = q * n ∧ acs.all (·.oneCell') = true ∧ (∀ r, CompR r (k + 1) bl → (∀ p ∈ bl, BlkOK W r p) ∧ ∀ j, j < q → ∃ cs', W.cells? 0 (a.add (j * n)) n = some cs' ∧ VL r ((acs.drop (j * n)).take n) cs') ∧
      (∀ h, CompH h (k + 1) bl → ∀ (j : Nat) (y : α), l[j]? = some y → L h y ((acs.drop (j * n)).take n)) ∧ ∀ x ∈ l, ok x := by
    intro q
    induction q with
    | zero => intro _; exact ⟨[], [], [], rfl, by simp, rfl, fun r _ => ⟨fun p hp => by simp at hp, fun j hj => by omega⟩, fun h _ j y hj => by simp at hj, by simp⟩
    | succ q ih =>
      intro hq2
      obtain ⟨l, bl, acs, l1, l2, l3, l4, l5, l6⟩ := ih (by omega)
      obtain ⟨cs', g1, g2⟩ := hel q (by omega)
      rw [hc] at g1
      obtain ⟨y, bl2, acs2, m1, m2, m3, m4, m5⟩ := h enc W held fu cs' _ g2 (k + 1 + bl.length)
      refine ⟨l ++ [y], bl ++ bl2, acs ++ acs2, by simp [l1], by rw [List.length_append, l2, m1, Nat.add_mul, Nat.one_mul], by rw [List.all_append, l3, m2]; rfl, fun r hr => ⟨fun p hp => ?_, fun j hj => ?_⟩, fun h hh j z hj => ?_, fun z hz => ?_⟩
      · rcases List.mem_append.1 hp with hp | hp
        · exact (l4 r hr.left).1 p hp
        · exact (m3 r hr.right).1 p hp
      · by_cases hjq : j < q
        · rw [chunk_append l2 hjq]; exact (l4 r hr.left).2 j hjq
        · have : j = q := by omega
          subst this
          rw [chunk_last l2 m1]; exact ⟨cs', g1, (m3 r hr.right).2⟩
      · have hj2 := (List.getElem?_eq_some_iff.1 hj).1
        rw [List.length_append, l1] at hj2; simp at hj2
        by_cases hjq : j < q
        · rw [List.getElem?_append_left (by omega)] at hj
          rw [chunk_append l2 hjq]; exact l5 h hh.left j z hj
        · have : j = q := by omega
          subst this
          rw [List.getElem?_append_right (by omega), l1, Nat.sub_self] at hj
          simp at hj; subst hj
          rw [chunk_last l2 m1]; exact m4 h hh.right
      · rcases List.mem_append.1 hz with hz | hz
        · exact l6 z hz
        · rw [List.mem_singleton.1 hz]; exact m5
  obtain ⟨l, bl, acs, l1, l2, l3, l4, l5, l6⟩ := hq len (Nat.le_refl _)
  obtain ⟨cs0, g0, _⟩ := hel 0 (by omega)
  have g4 := (World.cells?_some g0).2.2 0 (by rw [hc]; exact hn)
  have hl0 := (World.cells?_some g0).2.1
  obtain ⟨v0, hv0⟩ : ∃ v, cs0[0]? = some v := ⟨_, List.getElem?_eq_getElem (by rw [hl0, hc]; exact hn)⟩
  rw [hv0] at g4
  obtain ⟨hs, c, el, fz, hh, hcell⟩ := cell_heap g4
  rw [(add_block _ _).1, (add_block _ _).1] at hh
  have hspot : a.spot = none := by
    have : (a.add (0 * P.cellsOf e)).add 0 = a := by rw [Nat.zero_mul]; rfl
    rw [this] at hs; exact hs
  have all : ∀ (j : Nat) (cs' : List Value), W.cells? 0 (a.add (j * n)) n = some cs' → ∀ (i : Nat) (v : Value), cs'[i]? = some v → c[a.off + (j * n + i)]? = some v := fun j cs' hy i v hv => by
    obtain ⟨_, q2, q3⟩ := World.cells?_some hy
    have hi : i < n := by have := (List.getElem?_eq_some_iff.1 hv).1; omega
    have q4 := q3 i hi
    rw [hv] at q4
    obtain ⟨_, c2, el2, fz2, hh2, hcell2⟩ := cell_heap q4
    rw [(add_block _ _).1, (add_block _ _).1, hh] at hh2
    cases hh2
    rw [(add_block _ _).2, (add_block _ _).2] at hcell2
    rw [← hcell2]; congr 1; omega
  have hsz : a.off + len * n ≤ c.size := by
    obtain ⟨csl, e1, _⟩ := hel (len - 1) (by omega)
    rw [hc] at e1
    have q2 := (World.cells?_some e1).2.1
    have hv := all (len - 1) csl e1 (n - 1) _ (List.getElem?_eq_getElem (by omega))
    have := (Array.getElem?_eq_some_iff.1 hv).1
    have e2 : (len - 1) * n + n = len * n := by
      obtain ⟨q, rfl⟩ : ∃ q, len = q + 1 := ⟨len - 1, by omega⟩
      simp only [Nat.add_sub_cancel, Nat.add_mul, Nat.one_mul]
    omega
  refine ⟨l, (some ⟨acs, n, true⟩, some ⟨a.block, a.off, len * n, n⟩) :: bl, [.slice (some ⟨k, 0, none⟩) len (2 * m + 1)], rfl, rfl, fun r hr => ?_, fun h hH => ?_, by omega, l6⟩
  · have hr0 : r k = some ⟨a.block, a.off, len * n, n⟩ := hr 0 _ rfl
    have hr1 : CompR r (k + 1) bl := fun i p hp => by rw [Nat.add_assoc, Nat.add_comm 1 i]; exact hr (i + 1) p hp
    obtain ⟨r1, r2⟩ := l4 r hr1
    refine ⟨fun p hp => ?_, VL.cons (.sl (.inl ⟨rfl, _, hr0, ?_⟩) hl (by omega) (fun _ => by omega) (fun q => by omega)) (VL.nil r)⟩
    · rcases List.mem_cons.1 hp with rfl | hp
      · intro B hB
        cases hB
        refine ⟨_, c, el, fz, rfl, hh, rfl, by show acs.length ≤ len * n; omega, hsz, rfl, fun i v hv => ⟨List.all_eq_true.1 l3 v (List.mem_of_getElem? hv), ?_⟩⟩
        have hi := (List.getElem?_eq_some_iff.1 hv).1
        have hv : acs[i]? = some v := hv
        have hi : i < acs.length := hi
        have hj : i / n < len := Nat.div_lt_of_lt_mul (by rw [Nat.mul_comm]; omega)
        have he : i = i / n * n + i % n := by rw [Nat.mul_comm]; exact (Nat.div_add_mod i n).symm
        obtain ⟨cs', s1, s2⟩ := r2 (i / n) hj
        have hk : ((acs.drop (i / n * n)).take n)[i % n]? = some v := by
          rw [List.getElem?_take, if_pos (Nat.mod_lt _ hn), List.getElem?_drop, ← he]; exact hv
        obtain ⟨v', t1, t2⟩ := s2.get hk
        refine ⟨v', ?_, t2⟩
        have := all (i / n) cs' s1 (i % n) v' t1
        rw [← he] at this; exact this
      · exact r1 p hp
    · obtain ⟨ab, ao, asp⟩ := a
      simp only at hspot; subst hspot; rfl
  · have h0 : h.get k = some ⟨acs, n, true⟩ := hH 0 _ rfl _ rfl
    have h1 : CompH h (k + 1) bl := fun i p hp B hB => by rw [Nat.add_assoc, Nat.add_comm 1 i]; exact hH (i + 1) p hp B hB
    refine ⟨_, rfl, ?_⟩
    have := SlL.row (L := L) (n := n) (h := h) k (2 * m + 1) l acs h0 (by rw [l2, l1]) (l5 h h1)
    rw [l1] at this; exact this
end
theorem SlL.sl {α : Type} {K : Row α} {h : H} {V : Value} {l : List α} (A : SlL (fun _ y cs => cs = K.cells y) K.n h V l) : K.Sl h V l := by
  cases A with
  | nil => exact .nil
  | emp a c => exact .emp a c
  | row b c l cells hg hl he =>
    have e : cells = K.flat l := by
      apply List.ext_getElem?
      intro i
      by_cases hi : i < cells.length
      · have hj : i / K.n < l.length := Nat.div_lt_of_lt_mul (by rw [Nat.mul_comm]; omega)
        have hi2 : i = i / K.n * K.n + i % K.n := by rw [Nat.mul_comm]; exact (Nat.div_add_mod i K.n).symm
        have h1 := he (i / K.n) _ (List.getElem?_eq_getElem hj)
        have h2 := K.flat_get l (i / K.n) _ (List.getElem?_eq_getElem hj)
        have h3 := congrArg (fun z : List Value => z[i % K.n]?) (h1.trans h2.symm)
        simp only [List.getElem?_take, if_pos (Nat.mod_lt i K.pos), List.getElem?_drop] at h3
        rw [← hi2] at h3; exact h3
      · rw [List.getElem?_eq_none (by omega), List.getElem?_eq_none (by rw [K.flat_length]; omega)]
    subst e
    exact .own hg
theorem rel_bl {W : World} {bl : BL} (hb : ∀ p ∈ bl, BlkOK W (rhoL (bl.map Prod.snd)) p) : Rel W.heap.size (rhoL (bl.map Prod.snd)) (args (bl.map Prod.fst)) W := by
  have pick : ∀ k B, (args (bl.map Prod.fst)).get k = some B → ∃ p, bl[k]? = some p ∧ p.1 = some B := fun k B e => by
    rw [args_get, List.getElem?_map] at e
    cases ho : bl[k]? with
    | none => rw [ho] at e; cases e
    | some p => rw [ho] at e; exact ⟨p, rfl, by simpa using e⟩
  have loc : ∀ k p, bl[k]? = some p → rhoL (bl.map Prod.snd) k = p.2 := fun k p e => by simp [rhoL, List.getElem?_map, e]
  refine ⟨fun k B e => ?_, fun n m Bn Bm L M e1 e2 hne hro => ?_, fun n hn => ?_, Nat.le_refl _, fun n B L e hro hL => ?_⟩
  · obtain ⟨p, h1, h2⟩ := pick k B e
    obtain ⟨L, c, el, fz, g1, g2, g3, g4, g5, g6, g7⟩ := hb p (List.mem_of_getElem? h1) B h2
    exact ⟨L, c, el, fz, by rw [loc k p h1, g1], g2, g3, g4, g5, fun q => by (rw [g6] at q; cases q), g7⟩
  · obtain ⟨p, h1, h2⟩ := pick n Bn e1
    obtain ⟨_, _, _, _, _, _, _, _, _, g6, _⟩ := hb p (List.mem_of_getElem? h1) Bn h2
    rw [g6] at hro; cases hro
  · rw [args_next, List.length_map] at hn
    simp [rhoL, List.getElem?_eq_none (show bl.length ≤ n by omega)]
  · obtain ⟨p, h1, h2⟩ := pick n B e
    obtain ⟨L', c, el, fz, g1, g2, _⟩ := hb p (List.mem_of_getElem? h1) B h2
    rw [loc n p h1, g1] at hL; cases hL
    exact (Array.getElem?_eq_some_iff.1 g2).1
theorem compR_rho (bl : BL) : CompR (rhoL (bl.map Prod.snd)) 0 bl := fun i p hp => by simp [rhoL, List.getElem?_map, hp]
theorem compH_args (bl : BL) : CompH (args (bl.map Prod.fst)) 0 bl := fun i p hp B hB => by
  rw [args_get, List.getElem?_map, Nat.zero_add, hp]; simp [hB]
theorem wf_args (bl : BL) : Mem (args (bl.map Prod.fst)) (args (bl.map Prod.fst)) [] [] := Mem.start fun n B e => by
  rw [args_get] at e; rw [args_next]
  rcases Nat.lt_or_ge n (bl.map Prod.fst).length with q | q
  · exact q
  · rw [List.getElem?_eq_none q] at e; cases e
def GivenA (W : World) (k : Nat) (us us' : List Value) (bl : BL) : Prop := ∀ r, CompR r k bl → (∀ p ∈ bl, BlkOK W r p) ∧ VL r us us'
theorem GivenA.nil {W : World} {k : Nat} : GivenA W k [] [] [] := fun r _ => ⟨fun p hp => by simp at hp, VL.nil r⟩
theorem GivenA.cons {W : World} {k : Nat} {u u' : Value} {us us' : List Value} {bl bl2 : BL} (h1 : ∀ r, CompR r k bl → (∀ p ∈ bl, BlkOK W r p) ∧ VR r u u') (h2 : GivenA W (k + bl.length) us us' bl2) : GivenA W k (u :: us) (u' :: us') (bl ++ bl2) := fun r hr =>
  ⟨fun p hp => (List.mem_append.1 hp).elim ((h1 r hr.left).1 p) ((h2 r hr.right).1 p), VL.cons (h1 r hr.left).2 (h2 r hr.right).2⟩
theorem given_one {W : World} {k : Nat} {bl : BL} {u v : Value} (h : ∀ r, CompR r k bl → (∀ p ∈ bl, BlkOK W r p) ∧ VL r [u] [v]) : ∀ r, CompR r k bl → (∀ p ∈ bl, BlkOK W r p) ∧ VR r u v := fun r hr =>
  ⟨(h r hr).1, (h r hr).2.2 0 u v rfl rfl⟩
theorem one_of {l : List Value} (h : l.length = 1) : ∃ u, l = [u] := by
  match l, h with
  | [u], _ => exact ⟨u, rfl⟩
theorem law_calls {P : Program} {tab : Nat → Option FD} (hD : DrawOK P) (hT : TabOK P tab) {f : Nat} {W : World} {bl : BL} {us us' : List Value} (hb : ∀ r, CompR r 0 bl → (∀ p ∈ bl, BlkOK W r p) ∧ VL r us us')
    (hw : Cll tab f us (args (bl.map Prod.fst)) (fun v _ => v = .bool true)) : Calls P f us'.toArray W fun e W' => e = .returned (.bool true) ∧ Go.RowKit.Below W.heap.size W W' := by
  obtain ⟨v, h2, ⟨n, hr⟩, rfl⟩ := hw
  obtain ⟨b1, b2⟩ := hb _ (compR_rho bl)
  have R := rel_bl b1
  refine (run_table hD hT n f W.heap.size _ _ W us us' _ _ hr b2 R).2.mono fun e W' he => ?_
  obtain ⟨r2, v', rfl, hv, _, F, _⟩ := he
  cases hv
  exact ⟨rfl, F.below R⟩
end Go.Proofs.Ytomaijljeacpjaa.Am
namespace Go.Proofs.Ytomaijljeacpjaa.Wt
open Go Go.Proofs.Ytomaijljeacpjaa.Am Go.Proofs.Ytomaijljeacpjaa.IrAll
set_option linter.unusedVariables false
set_option linter.unusedSimpArgs false
structure Rrow where
  ky : List UInt8
  va : List UInt8
  vn : UInt64
  deriving DecidableEq
def Rrow.cells (x : Rrow) : List Value := [(.string (bs x.ky)), (.string (bs x.va)), (.int .u64 (((x.vn).toNat : Nat) : Int))]
def KRrow : Row Rrow := ⟨Rrow.cells, 3, fun _ => rfl, by decide, fun _ => rfl⟩
structure Res where
  cd : UInt8
  n : UInt64
  va : List UInt8
  rs : List Rrow
  deriving DecidableEq
def Res.cells (r : Res) (V : Value) : List Value := [(.int .u8 (((r.cd).toNat : Nat) : Int)), (.int .u64 (((r.n).toNat : Nat) : Int)), (.string (bs r.va)), V]
def Res.val (r : Res) (V : Value) : Value := .agg (r.cells V).toArray
variable {h base : H} {L : List Seg} {R : List Nat}
def FitR (rs : List Rrow) : Prop := ∀ p ∈ rs, p.ky.length ≤ 300000 ∧ p.va.length ≤ 300000
def FitRes (r : Res) : Prop := r.va.length ≤ 300000 ∧ r.rs.length ≤ 300000 ∧ FitR r.rs
def rowR (x : Rrow) : List UInt8 := (sb x.ky ++ sb x.va) ++ vb x.vn.toNat
def headR (r : Res) : List UInt8 := (([r.cd] ++ vb r.n.toNat) ++ sb r.va) ++ vb r.rs.length
def encR (r : Res) : List UInt8 := headR r ++ r.rs.flatMap rowR
theorem n64 {n : Nat} (h : n < 18446744073709551616) : (UInt64.ofNat n).toNat = n := by simp [UInt64.toNat_ofNat']; omega
theorem opens_5 : OpensL Try.prog 5 layU8 1 (fun _ => True) := OpensL.u8 Try.underlying5 (by kernel_rfl)
end Go.Proofs.Ytomaijljeacpjaa.Wt
namespace Go.Proofs.Ytomaijljeacpjaa.Wt
open Go Go.Proofs.Ytomaijljeacpjaa.Am Go.Proofs.Ytomaijljeacpjaa.IrAll
set_option linter.unusedVariables false
set_option linter.unusedSimpArgs false
variable {h base : H} {L : List Seg} {R : List Nat}
theorem splice_set {cells : List Value} {k : Nat} {v : Value} (h : k < cells.length) : splice cells k [v] = cells.set k v := by
  unfold splice; rw [List.set_eq_take_append_cons_drop, if_pos h]; simp
theorem set_same {α : Type} {l : List α} {i : Nat} {y : α} (hy : l[i]? = some y) : l.set i y = l := by
  apply List.ext_getElem?
  intro j
  rw [List.getElem?_set]
  split
  · rename_i e; subst e; rw [if_pos (List.getElem?_eq_some_iff.1 hy).1, hy]
  · rfl
theorem r_skip_ran {r n : Nat} {s : List UInt8} {b ok : Bool} (M : Mem base h ([(r, ⟨[.string (bs s), .bool b], 0, false⟩)] :: L) []) (hl : s.length ≤ 1000000) : Cll tab0 76 [.pointer (some ⟨r, 0, none⟩), .int .i64 (n : Int), .bool ok] h (fun v h2 => ∃ s' b', v = .bool (!b') ∧ Mem base h2 ([(r, ⟨[.string (bs s'), .bool b'], 0, false⟩)] :: L) [] ∧ (b' = false → b = false ∧ ok = true ∧ n ≤ s.length ∧ s' = s.drop n) ∧ (b' = true → s' = s) ∧ (b = false → ok = true → n ≤ s.length → b' = false)) := by
  refine Cll.code rfl rfl ?_
  refine WC.env [(0, _), (1, _), (2, _)] rfl ?_
  refine WC.seq ?_
  refine WC.run ?_
  refine WS.op rfl rfl (WS.nil [(0, _), (1, _), (2, _)] rfl ?_)
  refine WC.seq ?_
  refine WC.seq ?_
  refine WC.run ?_
  refine WS.op rfl rfl (WS.op rfl rfl (WS.op rfl rfl (WS.op rfl rfl (WS.op rfl (op_ld (M.at 0 rfl) rfl rfl) (WS.op rfl rfl ?_)))))
  cases hb1 : b
  ·
   refine WS.op rfl rfl ?_
   cases hb2 : ok
   ·
    refine WS.opV (.bool true) rfl rfl rfl (WS.op rfl rfl (WS.op rfl rfl (WS.off rfl (WS.off rfl (WS.off rfl (WS.off rfl (WS.off rfl (WS.off rfl (WS.off rfl ?_)))))))))
    refine WS.op rfl rfl (WS.op rfl rfl (WS.op rfl rfl ?_))
    refine WS.st1 (M.focus 0 rfl) [_] [_, _] rfl rfl rfl rfl rfl (Nat.le_of_ble_eq_true rfl) (Nat.le_of_ble_eq_true rfl) rfl rfl ?_
    intro h1 M2
    replace M2 : Mem _ _ ([(r, _)] :: L) _ := M2
    refine WS.nil [(0, _), (1, _)] rfl ?_
    refine WC.seq ?_
    refine WC.run ?_
    refine WS.op rfl rfl (WS.op rfl rfl (WS.op rfl rfl (WS.op rfl (op_ld (M2.at 0 rfl) rfl rfl) (WS.nil [(0, _), (1, _), (30, _)] rfl ?_))))
    refine WC.condT rfl ?_
    refine WC.seq ?_
    refine WC.run ?_
    refine WS.op rfl rfl (WS.nil [(6, _)] rfl ?_)
    refine WC.ret ?_
    refine ⟨[_], (res_tmp rfl res_nil), ?_⟩
    exact ⟨_, true, rfl, M2, fun q => (nomatch q), fun _ => rfl, fun u1 u2 u3 => by first | (cases u1; done) | (cases u2; done) | (rw [hb1] at u1; cases u1; done) | (rw [hb1] at u2; cases u2; done) | (rw [hb2] at u2; cases u2; done) | (exfalso; omega)⟩
   ·
    refine WS.opV (.bool false) rfl rfl rfl (WS.op rfl rfl (WS.op rfl rfl (WS.op rfl rfl (WS.op rfl rfl (WS.op rfl rfl (WS.op rfl rfl (WS.op rfl (op_ld (M.at 0 rfl) rfl rfl) (WS.op rfl (op_lenS (l := s) rfl) ?_))))))))
    refine WS.gtrN (a := n) (b := (s).length) rfl rfl rfl (fun e23 => ?_) (fun e23 => ?_)
    ·
     refine WS.op rfl rfl (WS.op rfl rfl (WS.op rfl rfl ?_))
     refine WS.st1 (M.focus 0 rfl) [_] [_, _] rfl rfl rfl rfl rfl (Nat.le_of_ble_eq_true rfl) (Nat.le_of_ble_eq_true rfl) rfl rfl ?_
     intro h3 M4
     replace M4 : Mem _ _ ([(r, _)] :: L) _ := M4
     refine WS.nil [(0, _), (1, _)] rfl ?_
     refine WC.seq ?_
     refine WC.run ?_
     refine WS.op rfl rfl (WS.op rfl rfl (WS.op rfl rfl (WS.op rfl (op_ld (M4.at 0 rfl) rfl rfl) (WS.nil [(0, _), (1, _), (30, _)] rfl ?_))))
     refine WC.condT rfl ?_
     refine WC.seq ?_
     refine WC.run ?_
     refine WS.op rfl rfl (WS.nil [(6, _)] rfl ?_)
     refine WC.ret ?_
     refine ⟨[_], (res_tmp rfl res_nil), ?_⟩
     exact ⟨_, true, rfl, M4, fun q => (nomatch q), fun _ => rfl, fun u1 u2 u3 => by first | (cases u1; done) | (cases u2; done) | (rw [hb1] at u1; cases u1; done) | (rw [hb1] at u2; cases u2; done) | (rw [hb2] at u2; cases u2; done) | (exfalso; omega)⟩
    ·
     refine WS.op rfl rfl (WS.op rfl rfl (WS.op rfl rfl ?_))
     refine WS.st1 (M.focus 0 rfl) [_] [_, _] rfl rfl rfl rfl rfl (Nat.le_of_ble_eq_true rfl) (Nat.le_of_ble_eq_true rfl) rfl rfl ?_
     intro h5 M6
     replace M6 : Mem _ _ ([(r, _)] :: L) _ := M6
     refine WS.nil [(0, _), (1, _)] rfl ?_
     refine WC.seq ?_
     refine WC.run ?_
     refine WS.op rfl rfl (WS.op rfl rfl (WS.op rfl rfl (WS.op rfl (op_ld (M6.at 0 rfl) rfl rfl) (WS.nil [(0, _), (1, _), (30, _)] rfl ?_))))
     refine WC.condF rfl ?_
     refine WC.skip ?_
     refine WC.seq ?_
     refine WC.run ?_
     refine WS.op rfl rfl (WS.op rfl rfl (WS.op rfl rfl (WS.op rfl rfl (WS.op rfl (op_ld (M6.at 0 rfl) rfl rfl) (WS.op rfl rfl (WS.op rfl (op_slS0 (l := s) n rfl rfl (by first | omega | (simp only [List.length_drop, List.length_take, List.length_append, List.length_cons, List.length_nil, List.length_singleton]; omega) | (simp only [List.length_drop, List.length_take, List.length_append, List.length_cons, List.length_nil, List.length_singleton] at *; omega))) (WS.op rfl rfl (WS.op rfl rfl ?_))))))))
     refine WS.st1 (M6.focus 0 rfl) [_] [_, _] rfl rfl rfl rfl rfl (Nat.le_of_ble_eq_true rfl) (Nat.le_of_ble_eq_true rfl) rfl rfl ?_
     intro h7 M8
     replace M8 : Mem _ _ ([(r, _)] :: L) _ := M8
     refine WS.nil [] rfl ?_
     refine WC.seq ?_
     refine WC.run ?_
     refine WS.op rfl rfl (WS.nil [(6, _)] rfl ?_)
     refine WC.ret ?_
     refine ⟨[_], (res_tmp rfl res_nil), ?_⟩
     exact ⟨_, false, rfl, M8, fun _ => ⟨by first | assumption | rfl, by first | assumption | rfl, by omega, rfl⟩, fun q => (nomatch q), fun _ _ _ => rfl⟩
  ·
   refine WS.off rfl (WS.off rfl (WS.op rfl rfl (WS.op rfl rfl (WS.off rfl (WS.off rfl (WS.off rfl (WS.off rfl (WS.off rfl (WS.off rfl ?_)))))))))
   refine WS.off rfl (WS.op rfl rfl (WS.op rfl rfl (WS.op rfl rfl ?_)))
   refine WS.st1 (M.focus 0 rfl) [_] [_, _] rfl rfl rfl rfl rfl (Nat.le_of_ble_eq_true rfl) (Nat.le_of_ble_eq_true rfl) rfl rfl ?_
   intro h9 M10
   replace M10 : Mem _ _ ([(r, _)] :: L) _ := M10
   refine WS.nil [(0, _), (1, _)] rfl ?_
   refine WC.seq ?_
   refine WC.run ?_
   refine WS.op rfl rfl (WS.op rfl rfl (WS.op rfl rfl (WS.op rfl (op_ld (M10.at 0 rfl) rfl rfl) (WS.nil [(0, _), (1, _), (30, _)] rfl ?_))))
   refine WC.condT rfl ?_
   refine WC.seq ?_
   refine WC.run ?_
   refine WS.op rfl rfl (WS.nil [(6, _)] rfl ?_)
   refine WC.ret ?_
   refine ⟨[_], (res_tmp rfl res_nil), ?_⟩
   exact ⟨_, true, rfl, M10, fun q => (nomatch q), fun _ => rfl, fun u1 u2 u3 => by first | (cases u1; done) | (cases u2; done) | (rw [hb1] at u1; cases u1; done) | (rw [hb1] at u2; cases u2; done) | (rw [hb2] at u2; cases u2; done) | (exfalso; omega)⟩
theorem r_byte_ran {r q k es : Nat} {s : List UInt8} {b : Bool} {cells : List Value} {old : UInt8} (M : Mem base h ([(r, ⟨[.string (bs s), .bool b], 0, false⟩)] :: [(q, ⟨cells, es, false⟩)] :: L) []) (hk : cells[k]? = some (.int .u8 ((old.toNat : Nat) : Int))) (hl : s.length ≤ 1000000) :
    Cll tab0 73 [.pointer (some ⟨r, 0, none⟩), .pointer (some ⟨q, k, none⟩)] h (fun v h2 => ∃ s' b' c, v = .tuple #[] ∧ Mem base h2 ([(r, ⟨[.string (bs s'), .bool b'], 0, false⟩)] :: [(q, ⟨cells.set k (.int .u8 ((UInt8.toNat c : Nat) : Int)), es, false⟩)] :: L) [] ∧ s'.length ≤ s.length ∧ (b' = false → b = false ∧ s = c :: s') ∧ (∀ c0 t, b = false → s = c0 :: t → b' = false ∧ c = c0 ∧ s' = t)) := by
  have hkl := (List.getElem?_eq_some_iff.1 hk).1
  refine Cll.code rfl rfl ?_
  refine WC.env [(0, _), (1, _)] rfl ?_
  refine WC.seq ?_
  refine WC.run ?_
  refine WS.op rfl rfl (WS.op rfl rfl (WS.op rfl rfl (WS.op rfl (op_ld (M.at 0 rfl) rfl rfl) (WS.op rfl rfl (WS.nil [(0, _), (1, _), (4, _)] rfl ?_)))))
  refine WC.seq ?_
  refine WC.run ?_
  refine WS.op rfl rfl ?_
  refine WS.call rfl rfl rfl (r_skip_ran (s := s) (b := b) (n := 1) (ok := true) (M.focus 0 rfl) (by omega)) ?_
  rintro _ h1 ⟨s', b', rfl, M2, q1, q2, q3⟩
  replace M2 : Mem _ _ ([(r, _)] :: [(q, _)] :: L) _ := M2
  refine WS.nil [(1, _), (4, _), (10, _)] rfl ?_
  cases hb1 : (!b')
  ·
   refine WC.condF rfl ?_
   refine WC.skip ?_
   refine ⟨[], res_nil, ?_⟩
   have g0 : b' = true := by simpa using hb1
   exact ⟨_, _, old, rfl, by rw [set_same hk]; exact M2, by rw [q2 g0]; exact Nat.le_refl _, fun q => by rw [g0] at q; exact absurd q (by decide), fun c0 t u e => by have := q3 u rfl (by subst e; simp); rw [g0] at this; exact absurd this (by decide)⟩
  ·
   refine WC.condT rfl ?_
   refine WC.run ?_
   refine WS.op rfl rfl (WS.op rfl rfl ?_)
   obtain ⟨g1, g2, g3, g4⟩ := q1 (by simpa using hb1)
   obtain ⟨c, hc⟩ : ∃ c, (s)[0]? = some c := ⟨_, List.getElem?_eq_getElem (show 0 < (s).length by first | omega | (simp only [List.length_drop, List.length_take, List.length_append, List.length_cons, List.length_nil, List.length_singleton]; omega) | (simp only [List.length_drop, List.length_take, List.length_append, List.length_cons, List.length_nil, List.length_singleton] at *; omega))⟩
   refine WS.op rfl (op_ixS 0 rfl rfl hc) (WS.op rfl rfl ?_)
   refine WS.st1 (M2.focus 1 rfl) [(.int .u8 (((c).toNat : Nat) : Int))] (cells.set k (.int .u8 (((c).toNat : Nat) : Int))) rfl rfl rfl rfl rfl (Nat.le_of_ble_eq_true rfl) (by exact hkl) rfl (splice_set hkl) ?_
   intro h3 M4
   replace M4 : Mem _ _ ([(q, _)] :: [(r, _)] :: L) _ := M4
   refine WS.nil [] rfl ?_
   refine ⟨[], res_nil, ?_⟩
   exact ⟨_, _, c, rfl, ((M4.focus 0 rfl).focus 1 rfl), by rw [g4, List.length_drop]; omega, fun q => ⟨g1, by rw [g4]; simpa using drop_cons hc⟩, fun c0 t _ e => ⟨by simpa using hb1, by subst e; simpa using hc.symm, by subst e; rw [g4]; rfl⟩⟩
theorem r_number_ran {r q k es : Nat} {s : List UInt8} {b : Bool} {cells : List Value} {old : UInt64} (M : Mem base h ([(r, ⟨[.string (bs s), .bool b], 0, false⟩)] :: [(q, ⟨cells, es, false⟩)] :: L) []) (hk : cells[k]? = some (.int .u64 ((old.toNat : Nat) : Int))) (hl : s.length ≤ 1000000) :
    Cll tab0 74 [.pointer (some ⟨r, 0, none⟩), .pointer (some ⟨q, k, none⟩)] h (fun v h2 => ∃ s' b' c, v = .tuple #[] ∧ Mem base h2 ([(r, ⟨[.string (bs s'), .bool b'], 0, false⟩)] :: [(q, ⟨cells.set k (.int .u64 ((UInt64.toNat c : Nat) : Int)), es, false⟩)] :: L) [] ∧ s'.length ≤ s.length ∧ (b' = false → b = false ∧ s = vb c.toNat ++ s') ∧ (∀ (m : Nat) t, m < 18446744073709551616 → b = false → s = vb m ++ t → b' = false ∧ c.toNat = m ∧ s' = t)) := by
  have hkl := (List.getElem?_eq_some_iff.1 hk).1
  refine Cll.code rfl rfl ?_
  refine WC.env [(0, _), (1, _)] rfl ?_
  refine WC.seq ?_
  refine WC.run ?_
  refine WS.op rfl rfl (WS.op rfl rfl (WS.op rfl rfl (WS.op rfl (op_ld (M.at 0 rfl) rfl rfl) ?_)))
  refine WS.call rfl rfl rfl (num_ReadV_ran M.here (l := s) (by first | omega | (simp only [List.length_drop, List.length_take, List.length_append, List.length_cons, List.length_nil, List.length_singleton]; omega) | (simp only [List.length_drop, List.length_take, List.length_append, List.length_cons, List.length_nil, List.length_singleton] at *; omega))) ?_
  rintro _ h1 ⟨rfl, N2⟩
  have M3 := M.trans N2
  refine WS.op rfl rfl (WS.opV (.int .u64 (((UInt64.ofNat (rvN s)).toNat : Nat) : Int)) rfl rfl (u64_ofNat (n := (rvN s)) (by have := rvN_lt s; omega)) (WS.op rfl rfl (WS.op rfl rfl (WS.op rfl rfl (WS.op rfl rfl (WS.op rfl rfl (WS.nil [(0, _), (1, _), (4, _), (5, _), (6, _)] rfl ?_)))))))
  refine WC.seq ?_
  refine WC.run ?_
  refine WS.op rfl rfl (WS.op rfl rfl (WS.op rfl rfl ?_))
  refine WS.call rfl rfl rfl (r_skip_ran (s := s) (b := b) (n := (rvK s)) (ok := (rvOK s)) (M3.focus 0 rfl) (by omega)) ?_
  rintro _ h5 ⟨s', b', rfl, M6, q1, q2, q3⟩
  replace M6 : Mem _ _ ([(r, _)] :: [(q, _)] :: L) _ := M6
  refine WS.nil [(1, _), (4, _), (19, _)] rfl ?_
  cases hb1 : (!b')
  ·
   refine WC.condF rfl ?_
   refine WC.skip ?_
   refine ⟨[], res_nil, ?_⟩
   have g0 : b' = true := by first | simpa using hb1 | simpa using hb2
   exact ⟨_, _, old, rfl, by rw [set_same hk]; exact M6, by rw [q2 g0]; exact Nat.le_refl _, fun q => by rw [g0] at q; exact absurd q (by decide), fun m t hm u e => by obtain ⟨f1, f2, f3⟩ := rv_eq_some (show getV s = some (m, (vb m).length) by rw [e]; exact getV_vb hm t); have := q3 u f3 (rvK_le s).1; rw [g0] at this; exact absurd this (by decide)⟩
  ·
   refine WC.condT rfl ?_
   refine WC.run ?_
   refine WS.op rfl rfl (WS.op rfl rfl (WS.op rfl rfl ?_))
   refine WS.st1 (M6.focus 1 rfl) [(.int .u64 (((UInt64.ofNat (rvN s)).toNat : Nat) : Int))] (cells.set k (.int .u64 (((UInt64.ofNat (rvN s)).toNat : Nat) : Int))) rfl rfl rfl rfl rfl (Nat.le_of_ble_eq_true rfl) (by exact hkl) rfl (splice_set hkl) ?_
   intro h7 M8
   replace M8 : Mem _ _ ([(q, _)] :: [(r, _)] :: L) _ := M8
   refine WS.nil [] rfl ?_
   refine ⟨[], res_nil, ?_⟩
   have g0 : b' = false := by first | simpa using hb1 | simpa using hb2
   obtain ⟨g1, g2, g3, g4⟩ := q1 g0
   exact ⟨_, _, UInt64.ofNat (rvN s), rfl, ((M8.focus 0 rfl).focus 1 rfl), by rw [g4, List.length_drop]; omega, fun q => ⟨g1, by rw [n64 (rvN_lt s), g4]; exact (getV_some (show getV s = some (rvN s, rvK s) by rw [getV_eq, g2]; rfl)).1⟩, fun m t hm _ e => by obtain ⟨f1, f2, f3⟩ := rv_eq_some (show getV s = some (m, (vb m).length) by rw [e]; exact getV_vb hm t); exact ⟨g0, by rw [n64 (rvN_lt s), f1], by rw [g4, f2, e, List.drop_left]⟩⟩
theorem r_text_ran {r q k es : Nat} {s : List UInt8} {b : Bool} {cells : List Value} {old : List UInt8} (M : Mem base h ([(r, ⟨[.string (bs s), .bool b], 0, false⟩)] :: [(q, ⟨cells, es, false⟩)] :: L) []) (hk : cells[k]? = some (.string (bs old))) (hl : s.length ≤ 1000000) (ho : old = []) :
    Cll tab0 75 [.pointer (some ⟨r, 0, none⟩), .pointer (some ⟨q, k, none⟩)] h (fun v h2 => ∃ s' b' c, v = .tuple #[] ∧ Mem base h2 ([(r, ⟨[.string (bs s'), .bool b'], 0, false⟩)] :: [(q, ⟨cells.set k (.string (bs c)), es, false⟩)] :: L) [] ∧ s'.length ≤ s.length ∧ c.length ≤ s.length ∧ (b' = false → b = false ∧ s = sb c ++ s') ∧ (∀ u t, u.length < 18446744073709551616 → b = false → s = sb u ++ t → b' = false ∧ c = u ∧ s' = t)) := by
  have hkl := (List.getElem?_eq_some_iff.1 hk).1
  have hrs := rsT_le s
  refine Cll.code rfl rfl ?_
  refine WC.env [(0, _), (1, _)] rfl ?_
  refine WC.seq ?_
  refine WC.run ?_
  refine WS.op rfl rfl (WS.op rfl rfl (WS.op rfl rfl (WS.op rfl (op_ld (M.at 0 rfl) rfl rfl) ?_)))
  refine WS.call rfl rfl rfl (num_ReadS_ran M.here (l := s) (by first | omega | (simp only [List.length_drop, List.length_take, List.length_append, List.length_cons, List.length_nil, List.length_singleton]; omega) | (simp only [List.length_drop, List.length_take, List.length_append, List.length_cons, List.length_nil, List.length_singleton] at *; omega))) ?_
  rintro _ h1 ⟨rfl, N2⟩
  have M3 := M.trans N2
  refine WS.op rfl rfl (WS.op rfl rfl (WS.op rfl rfl (WS.op rfl rfl (WS.op rfl rfl (WS.op rfl rfl (WS.op rfl rfl (WS.nil [(0, _), (1, _), (4, _), (5, _), (6, _)] rfl ?_)))))))
  refine WC.seq ?_
  refine WC.run ?_
  refine WS.op rfl rfl (WS.op rfl rfl (WS.op rfl rfl ?_))
  refine WS.call rfl rfl rfl (r_skip_ran (s := s) (b := b) (n := (rsK s)) (ok := (rsOK s)) (M3.focus 0 rfl) (by omega)) ?_
  rintro _ h5 ⟨s', b', rfl, M6, q1, q2, q3⟩
  replace M6 : Mem _ _ ([(r, _)] :: [(q, _)] :: L) _ := M6
  refine WS.nil [(1, _), (4, _), (19, _)] rfl ?_
  cases hb1 : (!b')
  ·
   refine WC.condF rfl ?_
   refine WC.skip ?_
   refine ⟨[], res_nil, ?_⟩
   have g0 : b' = true := by first | simpa using hb1 | simpa using hb2
   exact ⟨_, _, old, rfl, by rw [set_same hk]; exact M6, by rw [q2 g0]; exact Nat.le_refl _, by subst ho; exact Nat.zero_le _, fun q => by rw [g0] at q; exact absurd q (by decide), fun u t hu v e => by obtain ⟨f1, f2, f3⟩ := rs_eq_some (show getS s = some (u, (sb u).length) by rw [e]; exact getS_sb hu t); have := q3 v f3 (rsK_le s); rw [g0] at this; exact absurd this (by decide)⟩
  ·
   refine WC.condT rfl ?_
   refine WC.run ?_
   refine WS.op rfl rfl (WS.op rfl rfl (WS.op rfl rfl ?_))
   refine WS.st1 (M6.focus 1 rfl) [(.string (bs (rsT s)))] (cells.set k (.string (bs (rsT s)))) rfl rfl rfl rfl rfl (Nat.le_of_ble_eq_true rfl) (by exact hkl) rfl (splice_set hkl) ?_
   intro h7 M8
   replace M8 : Mem _ _ ([(q, _)] :: [(r, _)] :: L) _ := M8
   refine WS.nil [] rfl ?_
   refine ⟨[], res_nil, ?_⟩
   have g0 : b' = false := by first | simpa using hb1 | simpa using hb2
   obtain ⟨g1, g2, g3, g4⟩ := q1 g0
   exact ⟨_, _, rsT s, rfl, ((M8.focus 0 rfl).focus 1 rfl), by rw [g4, List.length_drop]; omega, hrs, fun q => ⟨g1, by rw [g4]; exact (getS_some (show getS s = some (rsT s, rsK s) by rw [getS_eq, g2]; rfl)).1⟩, fun u t hu _ e => by obtain ⟨f1, f2, f3⟩ := rs_eq_some (show getS s = some (u, (sb u).length) by rw [e]; exact getS_sb hu t); exact ⟨g0, f1, by rw [g4, f2, e, List.drop_left]⟩⟩
theorem well_ran (W : Mem h h [] []) {r : Nat} {s : List UInt8} {b : Bool} (hp : h.get r = some ⟨[.string (bs s), .bool b], 0, false⟩) : Cll tab0 53 [.pointer (some ⟨r, 0, none⟩)] h (fun v h2 => v = .bool (decide (b = false ∧ s = [])) ∧ Mem h h2 [] []) := by
  refine Cll.code rfl rfl ?_
  refine WC.env [(0, _)] rfl ?_
  refine WC.seq ?_
  refine WC.run ?_
  refine WS.op rfl rfl (WS.nil [(0, _)] rfl ?_)
  refine WC.seq ?_
  refine WC.run ?_
  refine WS.op rfl rfl (WS.op rfl rfl (WS.op rfl rfl (WS.op rfl (op_ld (W.sub _ _ hp) rfl rfl) ?_)))
  cases hb1 : b
  ·
   refine WS.opV (.bool true) rfl rfl rfl (WS.op rfl rfl (WS.op rfl rfl (WS.op rfl rfl (WS.op rfl rfl (WS.op rfl (op_ld (W.sub _ _ hp) rfl rfl) ?_)))))
   refine WS.seql (l := s) (m := []) rfl rfl rfl (fun e13 => ?_) (fun e13 => ?_)
   ·
    refine WS.op rfl rfl (WS.op rfl rfl (WS.nil [(2, _)] rfl ?_))
    refine WC.ret ?_
    refine ⟨[_], (res_tmp rfl res_nil), ?_⟩
    exact ⟨by rw [decide_eq_true ⟨by first | assumption | rfl, by assumption⟩]; rfl, W.bare.take 0⟩
   ·
    refine WS.op rfl rfl (WS.op rfl rfl (WS.nil [(2, _)] rfl ?_))
    refine WC.ret ?_
    refine ⟨[_], (res_tmp rfl res_nil), ?_⟩
    exact ⟨by rw [decide_eq_false (by rintro ⟨q1, q2⟩; first | exact absurd q2 (by assumption) | (cases q1; done) | (rw [hb1] at q1; cases q1))]; rfl, W.bare.take 0⟩
  ·
   refine WS.opV (.bool false) rfl rfl rfl (WS.op rfl rfl (WS.off rfl (WS.off rfl (WS.off rfl (WS.off rfl (WS.off rfl (WS.op rfl rfl (WS.op rfl rfl (WS.nil [(2, _)] rfl ?_)))))))))
   refine WC.ret ?_
   refine ⟨[_], (res_tmp rfl res_nil), ?_⟩
   exact ⟨by rw [decide_eq_false (by rintro ⟨q1, q2⟩; first | exact absurd q2 (by assumption) | (cases q1; done) | (rw [hb1] at q1; cases q1))]; rfl, W.bare.take 0⟩
end Go.Proofs.Ytomaijljeacpjaa.Wt
namespace Go.Proofs.Ytomaijljeacpjaa.Wt
open Go Go.Proofs.Ytomaijljeacpjaa.Am Go.Proofs.Ytomaijljeacpjaa.IrAll
set_option linter.unusedVariables false
set_option linter.unusedSimpArgs false
variable {h base : H} {L : List Seg} {R : List Nat}
theorem walkRowR_ran {r p : Nat} {s : List UInt8} {b : Bool} (M : Mem base h ([(r, ⟨[.string (bs s), .bool b], 0, false⟩)] :: [(p, ⟨[.string (bs []), .string (bs []), .int .u64 0], 0, false⟩)] :: L) []) (hl : s.length ≤ 300000) :
    Cll tab0 52 [.iface 100 (.pointer (some ⟨r, 0, none⟩)), .pointer (some ⟨p, 0, none⟩)] h (fun v h2 => ∃ x s' b', v = .tuple #[] ∧ Mem base h2 ([(r, ⟨[.string (bs s'), .bool b'], 0, false⟩)] :: [(p, ⟨Rrow.cells x, 0, false⟩)] :: L) [] ∧ s'.length ≤ s.length ∧ (x.ky.length ≤ 300000 ∧ x.va.length ≤ 300000) ∧ (b' = false → b = false ∧ s = rowR x ++ s') ∧ (∀ x0 t, x0.ky.length ≤ 300000 → x0.va.length ≤ 300000 → b = false → s = rowR x0 ++ t → b' = false ∧ x = x0 ∧ s' = t)) := by
  refine Cll.code rfl rfl ?_
  refine WC.env [(0, _), (1, _)] rfl ?_
  refine WC.seq ?_
  refine WC.draw M [] rfl ?_
  intro rb1 h2 M3
  refine WS.op rfl rfl (WS.op rfl rfl (WS.op rfl rfl (WS.op rfl rfl (WS.op rfl rfl (WS.op rfl rfl (WS.op rfl rfl ?_))))))
  refine WS.call rfl rfl rfl (r_text_ran (s := s) (b := b) (k := 0) ((M3.focus 1 rfl).focus 1 rfl) rfl (by omega) rfl) ?_
  rintro _ h4 ⟨s4_, b4_, m4_, rfl, M5, R4_⟩
  have R4_l := R4_.1
  have R4_t := R4_.2.1
  replace M5 : Mem _ _ ([(r, _)] :: [(p, _)] :: L) _ := M5
  refine WS.nil [(0, _), (1, _)] rfl ?_
  refine WC.seq ?_
  refine WC.draw M5.bare [] rfl ?_
  intro rb6 h7 M8
  refine WS.op rfl rfl (WS.op rfl rfl (WS.op rfl rfl (WS.op rfl rfl (WS.op rfl rfl (WS.op rfl rfl (WS.op rfl rfl ?_))))))
  refine WS.call rfl rfl rfl (r_text_ran (s := s4_) (b := b4_) (k := 1) ((M8.focus 1 rfl).focus 1 rfl) rfl (by omega) rfl) ?_
  rintro _ h9 ⟨s9_, b9_, m9_, rfl, M10, R9_⟩
  have R9_l := R9_.1
  have R9_t := R9_.2.1
  replace M10 : Mem _ _ ([(r, _)] :: [(p, _)] :: L) _ := M10
  refine WS.nil [(0, _), (1, _)] rfl ?_
  refine WC.draw M10.bare [] rfl ?_
  intro rb11 h12 M13
  refine WS.op rfl rfl (WS.op rfl rfl (WS.op rfl rfl (WS.op rfl rfl (WS.op rfl rfl (WS.op rfl rfl (WS.op rfl rfl ?_))))))
  refine WS.call rfl rfl rfl (r_number_ran (s := s9_) (b := b9_) (k := 2) (old := 0) ((M13.focus 1 rfl).focus 1 rfl) rfl (by omega)) ?_
  rintro _ h14 ⟨s14_, b14_, m14_, rfl, M15, R14_⟩
  have R14_l := R14_.1
  replace M15 : Mem _ _ ([(r, _)] :: [(p, _)] :: L) _ := M15
  refine WS.nil [] rfl ?_
  refine ⟨[], res_nil, ?_⟩
  refine ⟨(⟨m4_, m9_, m14_⟩ : Rrow), _, _, rfl, (M15.bare), by omega, ⟨by dsimp only; omega, by dsimp only; omega⟩, fun q => ?_, fun x0 t y1 y2 y3 y4 => ?_⟩
  · obtain ⟨g1, g2⟩ := R14_.2.1 q
    obtain ⟨g3, g4⟩ := R9_.2.2.1 g1
    obtain ⟨g5, g6⟩ := R4_.2.2.1 g3
    exact ⟨g5, by rw [g6, g4, g2]; simp [rowR]⟩
  · obtain ⟨z1, z2, z3⟩ := R4_.2.2.2 x0.ky (sb x0.va ++ (vb x0.vn.toNat ++ t)) (by omega) y3 (by rw [y4]; simp [rowR])
    obtain ⟨z4, z5, z6⟩ := R9_.2.2.2 x0.va _ (by omega) z1 z3
    obtain ⟨z7, z8, z9⟩ := R14_.2.2 x0.vn.toNat _ (UInt64.toNat_lt _) z4 z6
    exact ⟨z7, by rw [z2, z5, u64_inj z8], z9⟩
theorem walkResR_ran {r p : Nat} {s : List UInt8} {b : Bool} (M : Mem base h ([(r, ⟨[.string (bs s), .bool b], 0, false⟩)] :: [(p, ⟨[.int .u8 0, .int .u64 0, .string (bs []), .slice none 0 0], 0, false⟩)] :: L) []) (hl : s.length ≤ 300000) :
    Cll tab0 51 [.iface 100 (.pointer (some ⟨r, 0, none⟩)), .pointer (some ⟨p, 0, none⟩)] h (fun v h2 => ∃ cd n va N s' b', v = .int .u64 ((UInt64.toNat N : Nat) : Int) ∧ Mem base h2 ([(r, ⟨[.string (bs s'), .bool b'], 0, false⟩)] :: [(p, ⟨[.int .u8 ((UInt8.toNat cd : Nat) : Int), .int .u64 ((UInt64.toNat n : Nat) : Int), .string (bs va), .slice none 0 0], 0, false⟩)] :: L) [] ∧ s'.length ≤ s.length ∧ va.length ≤ 300000 ∧ (b' = false → b = false ∧ s = ((([cd] ++ vb n.toNat) ++ sb va) ++ vb N.toNat) ++ s') ∧ (∀ cd0 n0 va0 N0 t, va0.length ≤ 300000 → b = false → s = ((([cd0] ++ vb (UInt64.toNat n0)) ++ sb va0) ++ vb (UInt64.toNat N0)) ++ t → b' = false ∧ cd = cd0 ∧ n = n0 ∧ va = va0 ∧ N = N0 ∧ s' = t)) := by
  refine Cll.code rfl rfl ?_
  refine WC.env [(0, _), (1, _)] rfl ?_
  refine WC.seq ?_
  refine WC.run ?_
  refine WS.op rfl rfl (WS.nil [(0, _), (1, _)] rfl ?_)
  refine WC.seq ?_
  refine WC.run ?_
  refine WS.op rfl rfl (WS.op rfl rfl (WS.op rfl rfl (WS.op rfl (op_ld (M.at 1 rfl) rfl rfl) (WS.op rfl rfl (WS.opV (.int .u64 0) rfl rfl rfl ?_)))))
  refine WS.new M rfl ?_
  intro p1 h2 M3
  refine WS.st1 (M3.focus 0 rfl) [_] [_] rfl rfl rfl rfl rfl (Nat.le_of_ble_eq_true rfl) (Nat.le_of_ble_eq_true rfl) rfl rfl ?_
  intro h4 M5
  replace M5 : Mem _ _ ([(p1, _)] :: [(r, _)] :: [(p, _)] :: L) _ := M5
  refine WS.nil [(0, _), (1, _), (5, _)] rfl ?_
  refine WC.seq ?_
  refine WC.draw M5 [] rfl ?_
  intro rb6 h7 M8
  refine WS.op rfl rfl (WS.op rfl rfl (WS.op rfl rfl (WS.op rfl rfl (WS.op rfl rfl (WS.op rfl rfl (WS.op rfl rfl ?_))))))
  refine WS.call rfl rfl rfl (r_byte_ran (s := s) (b := b) (k := 0) (old := 0) ((M8.focus 2 rfl).focus 2 rfl) rfl (by omega)) ?_
  rintro _ h9 ⟨s9_, b9_, m9_, rfl, M10, R9_⟩
  have R9_l := R9_.1
  replace M10 : Mem _ _ ([(r, _)] :: [(p, _)] :: [(p1, _)] :: L) _ := M10
  refine WS.nil [(0, _), (1, _), (5, _)] rfl ?_
  refine WC.seq ?_
  refine WC.draw M10.bare [] rfl ?_
  intro rb11 h12 M13
  refine WS.op rfl rfl (WS.op rfl rfl (WS.op rfl rfl (WS.op rfl rfl (WS.op rfl rfl (WS.op rfl rfl (WS.op rfl rfl ?_))))))
  refine WS.call rfl rfl rfl (r_number_ran (s := s9_) (b := b9_) (k := 1) (old := 0) ((M13.focus 1 rfl).focus 1 rfl) rfl (by omega)) ?_
  rintro _ h14 ⟨s14_, b14_, m14_, rfl, M15, R14_⟩
  have R14_l := R14_.1
  replace M15 : Mem _ _ ([(r, _)] :: [(p, _)] :: [(p1, _)] :: L) _ := M15
  refine WS.nil [(0, _), (1, _), (5, _)] rfl ?_
  refine WC.seq ?_
  refine WC.draw M15.bare [] rfl ?_
  intro rb16 h17 M18
  refine WS.op rfl rfl (WS.op rfl rfl (WS.op rfl rfl (WS.op rfl rfl (WS.op rfl rfl (WS.op rfl rfl (WS.op rfl rfl ?_))))))
  refine WS.call rfl rfl rfl (r_text_ran (s := s14_) (b := b14_) (k := 2) ((M18.focus 1 rfl).focus 1 rfl) rfl (by omega) rfl) ?_
  rintro _ h19 ⟨s19_, b19_, m19_, rfl, M20, R19_⟩
  have R19_l := R19_.1
  have R19_t := R19_.2.1
  replace M20 : Mem _ _ ([(r, _)] :: [(p, _)] :: [(p1, _)] :: L) _ := M20
  refine WS.nil [(0, _), (5, _)] rfl ?_
  refine WC.seq ?_
  refine WC.run ?_
  refine WS.op rfl rfl ?_
  refine WS.call rfl rfl rfl (r_number_ran (s := s19_) (b := b19_) (k := 0) (old := 0) ((M20.bare.focus 2 rfl).focus 1 rfl) rfl (by omega)) ?_
  rintro _ h21 ⟨s21_, b21_, m21_, rfl, M22, R21_⟩
  have R21_l := R21_.1
  replace M22 : Mem _ _ ([(r, _)] :: [(p1, _)] :: [(p, _)] :: L) _ := M22
  refine WS.nil [(5, _)] rfl ?_
  refine WC.seq ?_
  refine WC.run ?_
  refine WS.op rfl (op_ld (M22.at 1 rfl) rfl rfl) (WS.op rfl rfl (WS.nil [(4, _)] rfl ?_))
  refine WC.ret ?_
  refine ⟨[_], (res_tmp rfl res_nil), ?_⟩
  refine ⟨_, _, _, _, _, _, rfl, (M22.focus 1 rfl).drop, by omega, by omega, fun q => ?_, fun cd0 n0 va0 N0 t y1 y2 y3 => ?_⟩
  · obtain ⟨g1, g2⟩ := R21_.2.1 q
    obtain ⟨g3, g4⟩ := R19_.2.2.1 g1
    obtain ⟨g5, g6⟩ := R14_.2.1 g3
    obtain ⟨g7, g8⟩ := R9_.2.1 g5
    exact ⟨g7, by rw [g8, g6, g4, g2]; simp⟩
  · obtain ⟨z1, z2, z3⟩ := R9_.2.2 cd0 (vb n0.toNat ++ (sb va0 ++ (vb N0.toNat ++ t))) y2 (by rw [y3]; simp)
    obtain ⟨z4, z5, z6⟩ := R14_.2.2 n0.toNat _ (UInt64.toNat_lt _) z1 z3
    obtain ⟨z7, z8, z9⟩ := R19_.2.2.2 va0 _ (by omega) z4 z6
    obtain ⟨x1, x2, x3⟩ := R21_.2.2 N0.toNat _ (UInt64.toNat_lt _) z7 z9
    exact ⟨x1, z2, u64_inj z5, z8, u64_inj x2, x3⟩
theorem rows_min (l : List Rrow) : 3 * l.length ≤ (l.flatMap rowR).length := by
  induction l with
  | nil => simp
  | cons x l ih =>
    have h1 := List.length_pos_iff.2 (vb_ne x.vn.toNat)
    have h2 := List.length_pos_iff.2 (vb_ne x.ky.length)
    have h3 := List.length_pos_iff.2 (vb_ne x.va.length)
    rw [List.flatMap_cons, List.length_append, List.length_cons]
    simp only [rowR, sb, List.length_append]; omega
def zeroR : Res := ⟨0, 0, [], []⟩
def RdR (s : List UInt8) (r : Res) (ok : Bool) : Prop := (ok = true → encR r = s) ∧ (ok = false → r = zeroR ∧ ∀ r0, FitRes r0 → encR r0 ≠ s)
theorem rdR_no {s : List UInt8} (h : ∀ r0, FitRes r0 → encR r0 ≠ s) : RdR s zeroR false := ⟨fun q => (nomatch q), fun _ => ⟨rfl, h⟩⟩
theorem drop_flatR {qs : List Rrow} {i : Nat} {y : Rrow} (h : qs[i]? = some y) : (qs.drop i).flatMap rowR = rowR y ++ (qs.drop (i + 1)).flatMap rowR := by
  have hi := (List.getElem?_eq_some_iff.1 h).1
  rw [List.drop_eq_getElem_cons hi, List.flatMap_cons]
  rw [List.getElem?_eq_getElem hi] at h; cases h; rfl
theorem fitR0 : FitRes zeroR := by unfold FitRes zeroR FitR; simp
theorem FitR_app {l : List Rrow} {x : Rrow} (h : FitR l) (hx : x.ky.length ≤ 300000 ∧ x.va.length ≤ 300000) : FitR (l ++ [x]) := by
  intro p hp
  rcases List.mem_append.1 hp with q | q
  · exact h p q
  · rw [List.mem_singleton] at q; subst q; exact hx
set_option maxRecDepth 8000 in
theorem ReadR_ran (W : Mem h h [] []) {s : List UInt8} (hl : s.length ≤ 299000) : Cll tab0 30 [.string (bs s)] h (fun v h2 => ∃ r V S ok, KRrow.Own V (Res.rs r) S ∧ v = .tuple #[r.val V, .bool ok] ∧ FitRes r ∧ (ok = true → encR r = s) ∧ (ok = false → r = zeroR) ∧ RdR s r ok ∧ Mem h h2 [S] []) := by
  refine Cll.code rfl rfl ?_
  refine WC.env [(0, _)] rfl ?_
  refine WC.seq ?_
  refine WC.run ?_
  refine WS.new W rfl ?_
  intro p1 h2 M3
  refine WS.op rfl rfl (WS.nil [(0, _), (2, _)] rfl ?_)
  refine WC.seq ?_
  refine WC.run ?_
  refine WS.new M3 rfl ?_
  intro p4 h5 M6
  refine WS.nil [(0, _), (2, _), (4, _)] rfl ?_
  refine WC.seq ?_
  refine WC.run ?_
  refine WS.op rfl rfl (WS.opV (.agg #[(.string (bs s)), (.bool false)]) rfl rfl rfl ?_)
  refine WS.box M6 [_, _] rfl rfl rfl rfl ?_
  intro p7 h8 M9
  refine WS.op rfl rfl (WS.nil [(2, _), (4, _), (5, _)] rfl ?_)
  refine WC.seq ?_
  refine WC.seq ?_
  refine WC.run ?_
  refine WS.op rfl rfl (WS.op rfl rfl ?_)
  refine WS.call rfl rfl rfl (walkResR_ran (s := s) (b := false) ((M9.focus 1 rfl).focus 1 rfl) (by omega)) ?_
  rintro _ h10 ⟨cd, n_, va, N_, sx, bx, rfl, M11, hx1, hx2, hx3, hx4⟩
  replace M11 : Mem _ _ ([(p7, _)] :: [(p4, _)] :: [(p1, _)] :: []) _ := M11
  refine WS.op rfl rfl (WS.nil [(2, _), (4, _), (5, _), (6, _)] rfl ?_)
  refine WC.block ?_
  obtain ⟨L12, eL14, M13⟩ := Mem.name3 ((((M11.bare.focus 1 rfl).focus 1 rfl)).nils)
  refine WC.loop (σ := List UInt8 × Bool × List Rrow × Value × Seg × Nat) (fun ((s_, b_, l, V_, S_, n)) => [(2, (.pointer (some ⟨p1, 0, none⟩))), (4, (.pointer (some ⟨p4, 0, none⟩))), (5, (.pointer (some ⟨p7, 0, none⟩))), (6, (.int .u64 ((n : Nat) : Int)))]) (fun ((s_, b_, l, V_, S_, n)) hh => Mem h hh (S_ :: [(p7, ⟨[(.string (bs s_)), (.bool b_)], 0, false⟩)] :: [(p4, ⟨[(.int .u8 (((cd).toNat : Nat) : Int)), (.int .u64 (((n_).toNat : Nat) : Int)), (.string (bs va)), V_], 0, false⟩)] :: L12) [] ∧ KRrow.Own V_ l S_ ∧ n < 18446744073709551616 ∧ s_.length ≤ s.length ∧ FitR l ∧ l.length ≤ 299001 ∧ (b_ = false → s = (((([cd] ++ vb n_.toNat) ++ sb va) ++ vb N_.toNat) ++ l.flatMap rowR) ++ s_ ∧ l.length + n = N_.toNat) ∧ (∀ r0 : Res, FitRes r0 → s = encR r0 → b_ = false ∧ cd = r0.cd ∧ n_ = r0.n ∧ va = r0.va ∧ n + l.length = r0.rs.length ∧ l = r0.rs.take l.length ∧ s_ = (r0.rs.drop l.length).flatMap rowR)) (fun ((s_, b_, l, V_, S_, n)) => n) (sx, bx, [], .slice none 0 0, [], N_.toNat) rfl ⟨(by exact M13), ?_⟩ ?_
  · exact ⟨.nil, UInt64.toNat_lt _, by omega, (by intro p hp; cases hp), by simp, (fun q => ⟨by rw [(hx3 q).2]; simp, by simp⟩), fun r0 hf he => by have hq := hf.2.1; obtain ⟨x1, x2, x3, x4, x5, x6⟩ := hx4 r0.cd r0.n r0.va (UInt64.ofNat r0.rs.length) (r0.rs.flatMap rowR) hf.1 rfl (by rw [he]; unfold encR headR; rw [n64 (by omega)]); exact ⟨x1, x2, x3, x4, by rw [x5, n64 (by omega)]; simp, by simp, by simpa using x6⟩⟩
  ·rintro ⟨s_, b_, l, V_, S_, n⟩ h15 ⟨M16, ⟨hO, hn64, hsl, hF, hll, hI, hC⟩⟩
   subst eL14
   refine WC.env [(2, _), (4, _), (5, _), (6, _)] rfl ?_
   obtain ⟨P_, rfl⟩ := hO.shape
   refine WC.seq ?_
   refine WC.seq ?_
   refine WC.run ?_
   refine WS.op rfl rfl ?_
   refine WS.gtrN (a := n) (b := 0) rfl rfl rfl (fun e15 => ?_) (fun e15 => ?_)
   ·
    refine WS.op rfl rfl (WS.op rfl rfl (WS.op rfl rfl (WS.op rfl rfl (WS.op rfl (op_ld (M16.at 1 rfl) rfl rfl) ?_))))
    cases b_
    ·
     refine WS.opV (.bool true) rfl rfl rfl (WS.op rfl rfl (WS.nil [(2, _), (4, _), (5, _), (6, _), (22, _)] rfl ?_))
     refine WC.condT rfl ?_
     refine WC.skip ?_
     refine WC.seq ?_
     refine WC.block ?_
     refine WC.seq ?_
     refine WC.run ?_
     refine WS.new M16 rfl ?_
     intro p17 h18 M19
     refine WS.nil [(2, _), (4, _), (5, _), (6, _), (7, _)] rfl ?_
     refine WC.seq ?_
     refine WC.run ?_
     refine WS.op rfl rfl (WS.op rfl rfl ?_)
     refine WS.call rfl rfl rfl (walkRowR_ran (s := s_) (b := false) ((M19.focus 0 rfl).focus 2 rfl) (by omega)) ?_
     rintro _ h20 ⟨xr, sx, bx, rfl, M21, hx1, hx2, hx3, hx4⟩
     replace M21 : Mem _ _ ([(p7, _)] :: [(p17, _)] :: S_ :: [(p4, _)] :: [(p1, _)] :: []) _ := M21
     refine WS.nil [(2, _), (4, _), (5, _), (6, _), (7, _)] rfl ?_
     refine WC.run ?_
     refine WS.op rfl rfl (WS.op rfl (op_ld (M21.at 3 rfl) rfl rfl) (WS.op rfl (op_lds [_, _, _] (M21.at 1 rfl) rfl (Nat.le_of_ble_eq_true rfl) rfl) ?_))
     refine WS.bsl M21 [_, _, _] rfl rfl rfl rfl ?_
     intro p22 h23 M24
     refine WS.app (l := l) (m := [xr]) (hO) (M24.focus 3 rfl) (Row.Src.one (K := KRrow) (m := [xr]) (M24.at 0 rfl)) rfl (by simp only [List.length_cons, List.length_nil]; omega) (by simp only [List.length_cons, List.length_nil]; omega) rfl rfl rfl ?_
     intro V25 S26 h27 O28 M29
     obtain ⟨P30, rfl⟩ := Row.Own.shape O28
     refine WS.op rfl rfl ?_
     refine WS.st1 (M29.focus 4 rfl) [_] [_, _, _, _] rfl rfl rfl rfl rfl (Nat.le_of_ble_eq_true rfl) (Nat.le_of_ble_eq_true rfl) rfl rfl ?_
     intro h31 M32
     replace M32 : Mem _ _ ([(p4, _)] :: S26 :: [(p22, _)] :: [(p7, _)] :: [(p17, _)] :: [(p1, _)] :: []) _ := M32
     refine WS.nil [(2, _), (4, _), (5, _), (6, _)] rfl ?_
     refine WC.run ?_
     refine WS.op rfl rfl (WS.opV (.int .u64 (((n - 1) : Nat) : Int)) rfl rfl (sub_u64 (a := n) (b := 1) (by have := hn64; omega)) (WS.op rfl rfl (WS.nil [(2, _), (4, _), (5, _), (6, _)] rfl ?_)))
     refine ⟨(sx, bx, l ++ [xr], (.slice P30 ((l ++ [xr])).length (2 * ((l ++ [xr])).length)), S26, n - 1), rfl, ⟨(((((M32.bare.focus 5 rfl).focus 1 rfl).focus 4 rfl).focus 3 rfl).take 4), ?_⟩, ?_⟩
     · exact ⟨O28, by omega, by omega, FitR_app hF hx2, by have e_ := congrArg List.length (hI rfl).1; have := rows_min l; simp only [List.length_append] at e_; simp only [List.length_append, List.length_cons, List.length_nil]; omega, (fun q => by obtain ⟨g1, g2⟩ := hx3 q; obtain ⟨g3, g4⟩ := hI rfl; exact ⟨by rw [g3, g2]; simp, by simp; omega⟩), fun r0 hf he => by obtain ⟨g1, g2, g3, g4, g5, g6, g7⟩ := hC r0 hf he; obtain ⟨y, hy⟩ : ∃ y, r0.rs[l.length]? = some y := ⟨_, List.getElem?_eq_getElem (by omega)⟩; have hyf := hf.2.2 _ (mem_get hy); obtain ⟨z1, z2, z3⟩ := hx4 y ((r0.rs.drop (l.length + 1)).flatMap rowR) hyf.1 hyf.2 rfl (by rw [g7, drop_flatR hy]); exact ⟨z1, g2, g3, g4, by simp; omega, by rw [List.length_append, List.length_singleton, List.take_add_one, hy, ← g6, z2]; rfl, by rw [List.length_append, List.length_singleton]; exact z3⟩⟩
     · simp only []; omega
    ·
     refine WS.opV (.bool false) rfl rfl rfl (WS.op rfl rfl (WS.nil [(2, _), (4, _), (5, _), (6, _), (22, _)] rfl ?_))
     refine WC.condF rfl ?_
     refine WC.exit ?_
     refine WC.seq ?_
     refine WC.seq ?_
     refine WC.run ?_
     refine WS.op rfl rfl ?_
     refine WS.call rfl rfl rfl (well_ran M16.here (s := s_) (b := true) (M16.at 1 rfl)) ?_
     rintro _ h33 ⟨rfl, N34⟩
     have M35 := M16.trans N34
     cases hb2 : (decide (true = false ∧ s_ = []))
     ·
      refine WS.opV (.bool true) rfl rfl rfl (WS.nil [(2, _), (4, _), (36, _)] rfl ?_)
      refine WC.condT rfl ?_
      refine WC.seq ?_
      refine WC.run ?_
      refine WS.opV (.agg #[(.int .u8 (0 : Int)), (.int .u64 (0 : Int)), (.string (bs ([]))), (.slice none 0 0)]) rfl rfl rfl ?_
      refine WS.st1 (M35.focus 3 rfl) [_, _, _, _] [_, _, _, _] rfl rfl rfl rfl rfl (Nat.le_of_ble_eq_true rfl) (Nat.le_of_ble_eq_true rfl) rfl rfl ?_
      intro h36 M37
      replace M37 : Mem _ _ ([(p1, _)] :: S_ :: [(p7, _)] :: [(p4, _)] :: []) _ := M37
      refine WS.op rfl rfl (WS.nil [(2, _), (3, _)] rfl ?_)
      refine WC.ret ?_
      refine ⟨[_, _], (res_cellN [_, _, _, _] rfl (M37.at 0 rfl) (Nat.le_of_ble_eq_true rfl) rfl (res_tmp rfl res_nil)), ?_⟩
      have hno : ∀ r0, FitRes r0 → encR r0 ≠ s := by
        intro r0 hf he
        obtain ⟨g1, g2, g3, g4, g5, g6, g7⟩ := hC r0 hf he.symm
        first
        | (cases g1; done)
        | (have g8 : s_ = [] := by (rw [g7, List.drop_eq_nil_of_le (by omega)]; rfl)
           exact absurd (And.intro g1 g8) (of_decide_eq_false (by assumption)))
      exact ⟨zeroR, .slice none 0 0, [], false, .nil, rfl, fitR0, (fun q => nomatch q), (fun _ => rfl), rdR_no hno, (M37.bare.take 0).nils⟩
     ·
      refine WS.opV (.bool false) rfl rfl rfl (WS.nil [(2, _), (4, _), (36, _)] rfl ?_)
      refine WC.condF rfl ?_
      refine WC.skip ?_
      refine WC.seq ?_
      refine WC.run ?_
      refine WS.op rfl (op_lds [_, _, _, _] (M35.at 2 rfl) rfl (Nat.le_of_ble_eq_true rfl) rfl) ?_
      refine WS.st1 (M35.focus 3 rfl) [_, _, _, _] [_, _, _, _] rfl rfl rfl rfl rfl (Nat.le_of_ble_eq_true rfl) (Nat.le_of_ble_eq_true rfl) rfl rfl ?_
      intro h38 M39
      replace M39 : Mem _ _ ([(p1, _)] :: S_ :: [(p7, _)] :: [(p4, _)] :: []) _ := M39
      refine WS.op rfl rfl (WS.nil [(2, _), (3, _)] rfl ?_)
      refine WC.ret ?_
      refine ⟨[_, _], (res_cellN [_, _, _, _] rfl (M39.at 0 rfl) (Nat.le_of_ble_eq_true rfl) rfl (res_tmp rfl res_nil)), ?_⟩
      obtain ⟨w1, w2⟩ := of_decide_eq_true (p := true = false ∧ s_ = []) (by assumption)
      cases w1
   ·
    refine WS.op rfl rfl (WS.off rfl (WS.off rfl (WS.off rfl (WS.off rfl (WS.off rfl (WS.op rfl rfl (WS.nil [(2, _), (4, _), (5, _), (6, _), (22, _)] rfl ?_)))))))
    refine WC.condF rfl ?_
    refine WC.exit ?_
    refine WC.seq ?_
    refine WC.seq ?_
    refine WC.run ?_
    refine WS.op rfl rfl ?_
    refine WS.call rfl rfl rfl (well_ran M16.here (s := s_) (b := b_) (M16.at 1 rfl)) ?_
    rintro _ h40 ⟨rfl, N41⟩
    have M42 := M16.trans N41
    cases hb3 : (decide (b_ = false ∧ s_ = []))
    ·
     refine WS.opV (.bool true) rfl rfl rfl (WS.nil [(2, _), (4, _), (36, _)] rfl ?_)
     refine WC.condT rfl ?_
     refine WC.seq ?_
     refine WC.run ?_
     refine WS.opV (.agg #[(.int .u8 (0 : Int)), (.int .u64 (0 : Int)), (.string (bs ([]))), (.slice none 0 0)]) rfl rfl rfl ?_
     refine WS.st1 (M42.focus 3 rfl) [_, _, _, _] [_, _, _, _] rfl rfl rfl rfl rfl (Nat.le_of_ble_eq_true rfl) (Nat.le_of_ble_eq_true rfl) rfl rfl ?_
     intro h43 M44
     replace M44 : Mem _ _ ([(p1, _)] :: S_ :: [(p7, _)] :: [(p4, _)] :: []) _ := M44
     refine WS.op rfl rfl (WS.nil [(2, _), (3, _)] rfl ?_)
     refine WC.ret ?_
     refine ⟨[_, _], (res_cellN [_, _, _, _] rfl (M44.at 0 rfl) (Nat.le_of_ble_eq_true rfl) rfl (res_tmp rfl res_nil)), ?_⟩
     have hno : ∀ r0, FitRes r0 → encR r0 ≠ s := by
       intro r0 hf he
       obtain ⟨g1, g2, g3, g4, g5, g6, g7⟩ := hC r0 hf he.symm
       first
       | (cases g1; done)
       | (have g8 : s_ = [] := by (rw [g7, List.drop_eq_nil_of_le (by omega)]; rfl)
          exact absurd (And.intro g1 g8) (of_decide_eq_false (by assumption)))
     exact ⟨zeroR, .slice none 0 0, [], false, .nil, rfl, fitR0, (fun q => nomatch q), (fun _ => rfl), rdR_no hno, (M44.bare.take 0).nils⟩
    ·
     refine WS.opV (.bool false) rfl rfl rfl (WS.nil [(2, _), (4, _), (36, _)] rfl ?_)
     refine WC.condF rfl ?_
     refine WC.skip ?_
     refine WC.seq ?_
     refine WC.run ?_
     refine WS.op rfl (op_lds [_, _, _, _] (M42.at 2 rfl) rfl (Nat.le_of_ble_eq_true rfl) rfl) ?_
     refine WS.st1 (M42.focus 3 rfl) [_, _, _, _] [_, _, _, _] rfl rfl rfl rfl rfl (Nat.le_of_ble_eq_true rfl) (Nat.le_of_ble_eq_true rfl) rfl rfl ?_
     intro h45 M46
     replace M46 : Mem _ _ ([(p1, _)] :: S_ :: [(p7, _)] :: [(p4, _)] :: []) _ := M46
     refine WS.op rfl rfl (WS.nil [(2, _), (3, _)] rfl ?_)
     refine WC.ret ?_
     refine ⟨[_, _], (res_cellN [_, _, _, _] rfl (M46.at 0 rfl) (Nat.le_of_ble_eq_true rfl) rfl (res_tmp rfl res_nil)), ?_⟩
     obtain ⟨w1, w2⟩ := of_decide_eq_true (p := b_ = false ∧ s_ = []) (by assumption)
     obtain ⟨g3, g4⟩ := hI w1
     exact ⟨⟨cd, n_, va, l⟩, _, _, true, hO, rfl, ⟨hx2, by dsimp only; omega, hF⟩, (fun _ => by rw [g3, w2]; unfold encR headR; dsimp only; rw [show l.length = N_.toNat by omega]; simp), (fun q => nomatch q), ⟨fun _ => (by rw [g3, w2]; unfold encR headR; dsimp only; rw [show l.length = N_.toNat by omega]; simp), fun q => nomatch q⟩, ((M46.bare.focus 1 rfl).take 1)⟩
end Go.Proofs.Ytomaijljeacpjaa.Wt
namespace Go.Proofs.Ytomaijljeacpjaa.Am
open Go
set_option linter.unusedVariables false
set_option linter.unusedSimpArgs false
section
variable {base h h1 h2 h3 : H} {L L' : List Seg} {R : List Nat} {S : Seg}
variable {tab : Nat → Option FD} {Q : Ex → Env → H → Prop} {q : Env → H → Prop} {e e2 : Env}
variable {rb : Nat} {ss : List Step} {d : Option Nat} {g : Option (Nat × Bool)}
variable {α : Type} {K : Row α} {V y : Value} {l m : List α}
variable (K) in
inductive Row.Grow : Value → List α → Seg → Prop
  | nil : Row.Grow (.slice none 0 0) [] []
  | row (p : Nat) (l j : List α) : Row.Grow (.slice (some ⟨p, 0, none⟩) l.length (2 * (l ++ j).length)) l [(p, ⟨K.flat (l ++ j), K.n, false⟩)]
theorem Row.Grow.cases' (O : K.Grow V l S) : (V = .slice none 0 0 ∧ l = [] ∧ S = []) ∨ ∃ p j, V = .slice (some ⟨p, 0, none⟩) l.length (2 * (l ++ j).length) ∧ S = [(p, ⟨K.flat (l ++ j), K.n, false⟩)] := by
  cases O with
  | nil => exact .inl ⟨rfl, rfl, rfl⟩
  | row p l j => exact .inr ⟨p, j, rfl, rfl⟩
theorem Row.Grow.one (O : K.Grow V l S) : V.cells.toList = [V] ∧ V.oneCell' = true := by
  cases O <;> exact ⟨rfl, rfl⟩
theorem Row.Grow.sl (O : K.Grow V l S) (M : ∀ p ∈ S, h.get p.1 = some p.2) : K.Sl h V l := by
  cases O with
  | nil => exact .nil
  | row p l j =>
    have hb := M _ (List.mem_singleton.2 rfl)
    refine .row p 0 _ l ⟨_, hb, by simp [K.flat_length, Nat.add_mul], ?_⟩
    rw [List.drop_zero, K.flat_append, List.take_left]
theorem splice_flat {l m j : List α} (hm : m.length ≤ j.length) : splice (K.flat (l ++ j)) (l.length * K.n) (K.flat m) = K.flat (l ++ m ++ j.drop m.length) := by
  have e1 : l.length * K.n = (K.flat l).length := by rw [K.flat_length]
  have e2 : (K.flat m).length = (K.flat (j.take m.length)).length := by rw [K.flat_length, K.flat_length, List.length_take]; congr 1; omega
  have e3 : K.flat j = K.flat (j.take m.length) ++ K.flat (j.drop m.length) := by rw [← K.flat_append, List.take_append_drop]
  unfold splice
  rw [e1, K.flat_append, List.take_left, ← List.drop_drop, List.drop_left, e2, e3, List.drop_left, K.flat_append, K.flat_append]
theorem WS.appG {S : Seg} {x z : Operand} {bytes es : Nat} (O : K.Grow V l S) (M : Mem base h (S :: L) R) (A : K.Src h y m) (hm : m ≠ []) (hes : es = K.n) (hb : (l.length + m.length) * bytes ≤ 140737488355328) (hn : l.length + m.length ≤ 1099511627776) (hg : gd e g = some true) (hx : ev e x = some V) (hy : ev e z = some y)
    (k : ∀ V' S' h1, K.Grow V' (l ++ m) S' → Mem base h1 (S' :: L) R → WS tab rb ss (put e d V') h1 q) : WS tab rb (.op d g (.app es bytes x z) :: ss) e h q := by
  subst hes
  obtain ⟨a1, a2⟩ := A
  have hall := plain1_one (K.flat_plain m)
  have hml : m.length ≠ 0 := fun e => hm (List.eq_nil_of_length_eq_zero e)
  cases O with
  | nil =>
    refine .op hg (op_app hx hy (r := (.slice (some ⟨h.next, 0, none⟩) m.length (2 * m.length), h.alloc ⟨K.flat m, K.n, false⟩)) ?_) (k _ [(h.next, ⟨K.flat m, K.n, false⟩)] _ ?_ (Mem.perm (M.alloc _) (by simp)))
    · simp only [appE, a1, a2]
      simp only [List.length_nil, Nat.zero_add] at hb hn
      rw [if_neg hml, if_pos ⟨hb, hn, hall⟩]; rfl
    · have := Row.Grow.row (K := K) h.next m []
      rw [List.append_nil] at this
      rw [List.nil_append]; exact this
  | row p l j =>
    have hg2 : h.get p = some ⟨K.flat (l ++ j), K.n, false⟩ := M.own0 _ (List.mem_singleton.2 rfl)
    have hlj : (l ++ j).length = l.length + j.length := List.length_append
    by_cases c : m.length ≤ j.length
    · have hsp := splice_flat (K := K) (l := l) c
      have hle : 0 + l.length * K.n + (K.flat m).length ≤ (K.flat (l ++ j)).length := by
        rw [K.flat_length, K.flat_length, hlj, Nat.add_mul, Nat.zero_add]
        have := Nat.mul_le_mul_right K.n c; omega
      have hst : h.sts ⟨p, 0 + l.length * K.n, none⟩ (K.flat m) = some (h.set p (some ⟨K.flat (l ++ m ++ j.drop m.length), K.n, false⟩)) := by
        have hpos : 0 < (K.flat m).length := by rw [K.flat_length]; exact Nat.mul_pos (by omega) K.pos
        rw [← hsp]
        generalize hfl : K.flat m = fl at *
        match fl, hpos, hall with
        | v :: vs, _, hall =>
          have := sts_at hg2 rfl (off := 0 + l.length * K.n) (v := v) (vs := vs) hle hall
          rw [this, Nat.zero_add]
      refine .op hg (op_app hx hy (r := (.slice (some ⟨p, 0, none⟩) (l.length + m.length) (2 * (l ++ j).length), h.set p (some ⟨K.flat (l ++ m ++ j.drop m.length), K.n, false⟩))) ?_) (k _ _ _ ?_ (Mem.set (S1 := []) (S2 := []) M _))
      · simp only [appE, a1, a2]
        rw [if_pos (by omega)]
        show (match h.sts ⟨p, 0 + l.length * K.n, none⟩ (K.flat m) with | some h2 => some (Value.slice (some ⟨p, 0, none⟩) (l.length + m.length) (2 * (l ++ j).length), h2) | none => none) = _
        rw [hst]
      · have := Row.Grow.row (K := K) p (l ++ m) (j.drop m.length)
        have e1 : (l ++ m ++ j.drop m.length).length = (l ++ j).length := by simp; omega
        rw [e1, List.length_append] at this; exact this
    · have M2 := (Mem.free (S1 := []) (S2 := []) M).alloc ⟨K.flat (l ++ m), K.n, false⟩
      refine .op hg (op_app hx hy (r := (.slice (some ⟨h.next, 0, none⟩) (l.length + m.length) (2 * (l.length + m.length)), (h.set p none).alloc ⟨K.flat (l ++ m), K.n, false⟩)) ?_) (k _ [(h.next, ⟨K.flat (l ++ m), K.n, false⟩)] _ ?_ (Mem.perm M2 (by simp [H.next_set])))
      · simp only [appE, a1, a2]
        rw [if_neg (by omega), if_pos ⟨hb, hn, hall⟩, lds_at hg2 (by rw [K.flat_length, hlj, Nat.add_mul]; omega)]
        simp only
        rw [if_neg (by omega)]
        simp only [hg2]
        rw [if_pos ⟨trivial, trivial, trivial⟩, List.drop_zero, K.flat_append, ← K.flat_length, List.take_left, K.flat_append]
      · have := Row.Grow.row (K := K) h.next (l ++ m) []
        rw [List.append_nil, List.length_append] at this; exact this
theorem op_slVG0 {x z : Operand} {k : IntKind} {p : Nat} {l j : List α} {es : Nat} (i : Nat) (hes : es = K.n) (hb : h.get p = some ⟨K.flat (l ++ j), K.n, false⟩) (hx : ev e x = some (.slice (some ⟨p, 0, none⟩) l.length (2 * (l ++ j).length))) (hz : ev e z = some (.int k (i : Int))) (hi : i ≤ l.length) : opE (.slV es x (some z) none none) e h none = some (.slice (some ⟨p, i * K.n, none⟩) (l.length - i) (2 * ((l ++ j).length - i)), h) := by
  subst hes
  have hlj : (l ++ j).length = l.length + j.length := List.length_append
  have hnn : bnd e none = some none := rfl
  simp only [opE, hx, bnd_nat hz, hnn, Option.getD_some, Option.getD_none]
  rw [if_pos ⟨by omega, by omega, by omega, by simp⟩, if_neg (by simp)]
  simp only [hb, if_true, Nat.zero_add]
  congr 4
  omega
theorem Row.flat_setN {l : List α} {j : Nat} {y' : α} (hj : j < l.length) : splice (K.flat l) (j * K.n) (K.cells y') = K.flat (l.set j y') := by
  have h1 := splice_flat (K := K) (l := l.take j) (m := [y']) (j := l.drop j) (by simp; omega)
  rw [List.take_append_drop, List.length_take, Nat.min_eq_left (by omega)] at h1
  rw [show K.cells y' = K.flat [y'] by simp [Row.flat], h1, List.set_eq_take_append_cons_drop, if_pos hj, List.drop_drop]
  simp
theorem WS.stN {p j es n : Nat} {l : List α} {y' : α} {v : Value} {x z : Operand} (M : Mem base h ([(p, ⟨K.flat l, es, false⟩)] :: L) R) (hj : j < l.length) (hg : gd e g = some true) (hx : ev e x = some (.pointer (some ⟨p, 0 + j * K.n, none⟩))) (hz : ev e z = some v) (hv : v.cells.toList = K.cells y') (hn : n = K.n)
    (w : ∀ h1, Mem base h1 ([(p, ⟨K.flat (l.set j y'), es, false⟩)] :: L) R → WS tab rb ss (put e d undef) h1 q) : WS tab rb (.op d g (.st n x z) :: ss) e h q := by
  subst hn
  have hle : 0 + j * K.n + K.n ≤ (K.flat l).length := by
    rw [K.flat_length]
    have := Nat.mul_le_mul_right K.n (show j + 1 ≤ l.length by omega)
    rw [Nat.add_mul, Nat.one_mul] at this; omega
  have hall : (K.cells y').all (·.oneCell') = true := by
    have := plain1_one (K.flat_plain [y'])
    simpa [Row.flat] using this
  exact WS.st1 M (K.cells y') (K.flat (l.set j y')) hg hx hz hv (by rw [K.len]) K.pos hle hall (by rw [Nat.zero_add]; exact Row.flat_setN hj) w
theorem op_slVX {x z : Operand} {k : IntKind} {p n m es : Nat} {B : Blk} (i : Nat) (hi : i ≤ m) (hx : ev e x = some (.slice (some ⟨p, 0, none⟩) n (2 * m))) (hz : ev e z = some (.int k (i : Int))) (hb : h.get p = some B) (he : B.es = es) : opE (.slV es x none (some z) none) e h none = some (.slice (some ⟨p, 0, none⟩) i (2 * m), h) := by
  have hnn : bnd e none = some none := rfl
  simp only [opE, hx, bnd_nat hz, hnn, Option.getD_some, Option.getD_none]
  rw [if_pos ⟨by omega, by omega, by omega, by simp⟩, if_neg (by simp)]
  simp only [hb, he, if_true, Nat.zero_mul, Nat.zero_add, Nat.sub_zero]
  congr 3
  omega
theorem zrep_flat {z : List Value} {y0 : α} (hz : K.cells y0 = z) (n : Nat) : zrep z n = K.flat (List.replicate n y0) := by
  induction n with
  | zero => rfl
  | succ n ih => rw [List.replicate_succ, K.flat_cons, ← ih, hz]; rfl
theorem WS.clrG {x : Operand} {p es : Nat} {u w j : List α} {z : List Value} {y0 : α} {c : Nat} (M : Mem base h ([(p, ⟨K.flat (u ++ w ++ j), K.n, false⟩)] :: L) R) (hz : K.cells y0 = z) (hg : gd e g = some true) (hx : ev e x = some (.slice (some ⟨p, u.length * K.n, none⟩) w.length c))
    (k : ∀ h1, Mem base h1 ([(p, ⟨K.flat (u ++ List.replicate w.length y0 ++ j), K.n, false⟩)] :: L) R → WS tab rb ss (put e d undef) h1 q) : WS tab rb (.op d g (.clr es z x) :: ss) e h q := by
  have hg2 : h.get p = some ⟨K.flat (u ++ w ++ j), K.n, false⟩ := M.own0 _ (List.mem_singleton.2 rfl)
  by_cases hw : w.length = 0
  · have : w = [] := List.eq_nil_of_length_eq_zero hw
    subst this
    refine .op (v := undef) hg (by simp only [opE, hx]; rfl) (k _ (by simpa using M))
  · have hall := plain1_one (K.flat_plain (List.replicate w.length y0))
    have hsp := splice_flat (K := K) (l := u) (m := List.replicate w.length y0) (j := w ++ j) (by simp)
    have hdr : (w ++ j).drop (List.replicate w.length y0).length = j := by rw [List.length_replicate, List.drop_left]
    rw [hdr, ← List.append_assoc] at hsp
    have hpos : 0 < (K.flat (List.replicate w.length y0)).length := by rw [K.flat_length, List.length_replicate]; exact Nat.mul_pos (by omega) K.pos
    have hle : u.length * K.n + (K.flat (List.replicate w.length y0)).length ≤ (K.flat (u ++ w ++ j)).length := by
      rw [K.flat_length, K.flat_length, List.length_replicate]
      simp only [List.length_append, Nat.add_mul]; omega
    have hst : h.sts ⟨p, u.length * K.n, none⟩ (zrep z w.length) = some (h.set p (some ⟨K.flat (u ++ List.replicate w.length y0 ++ j), K.n, false⟩)) := by
      rw [zrep_flat hz, ← hsp]
      generalize hfl : K.flat (List.replicate w.length y0) = fl at *
      match fl, hpos, hall with
      | v :: vs, _, hall => exact sts_at hg2 rfl (off := u.length * K.n) (v := v) (vs := vs) hle hall
    refine .op (v := undef) (h1 := h.set p (some ⟨K.flat (u ++ List.replicate w.length y0 ++ j), K.n, false⟩)) hg ?_ (k _ (Mem.set (S1 := []) (S2 := []) M _))
    simp only [opE, hx]
    rw [if_neg hw, hst]; rfl
end
end Go.Proofs.Ytomaijljeacpjaa.Am
namespace Go.Proofs.Ytomaijljeacpjaa.Wt
open Go Go.Proofs.Ytomaijljeacpjaa.Am Go.Proofs.Ytomaijljeacpjaa.IrAll
set_option linter.unusedVariables false
set_option linter.unusedSimpArgs false
structure Ses where
  id : UInt64
  tt : UInt64
  lf : UInt64
  sq : UInt64
  kp : List UInt8
  deriving DecidableEq
def Ses.cells (x : Ses) : List Value := [(.int .u64 (((x.id).toNat : Nat) : Int)), (.int .u64 (((x.tt).toNat : Nat) : Int)), (.int .u64 (((x.lf).toNat : Nat) : Int)), (.int .u64 (((x.sq).toNat : Nat) : Int)), (.string (bs x.kp))]
def KSes : Row Ses := ⟨Ses.cells, 5, fun _ => rfl, by decide, fun _ => rfl⟩
variable {h base : H} {L : List Seg} {R : List Nat}
structure Tab where
  l : List Ses
  la : UInt64
def NoId (l : List Ses) (i : UInt64) : Prop := ∀ y ∈ l, y.id ≠ i
def IsAt (l : List Ses) (i : UInt64) (j : Nat) (y : Ses) : Prop := l[j]? = some y ∧ y.id = i ∧ ∀ k z, k < j → l[k]? = some z → z.id ≠ i
theorem find1_ran (W : Mem h h [] []) {y : Ses} {p : Nat} {i : UInt64} (hp : h.get p = some ⟨[.int .u64 ((i.toNat : Nat) : Int)], 0, false⟩) : Cll tab0 50 [.agg (Ses.cells y).toArray, .pointer (some ⟨p, 0, none⟩)] h (fun v h2 => v = .bool (decide (y.id = i)) ∧ Mem h h2 [] []) := by
  refine Cll.code rfl rfl ?_
  refine WC.env [(0, _), (1, _)] rfl ?_
  refine WC.seq ?_
  refine WC.run ?_
  refine WS.box W [_, _, _, _, _] rfl rfl rfl rfl ?_
  intro p1 h2 M3
  refine WS.op rfl rfl (WS.nil [(1, _), (2, _)] rfl ?_)
  refine WC.seq ?_
  refine WC.run ?_
  refine WS.op rfl rfl (WS.op rfl (op_ld (M3.at 0 rfl) rfl rfl) (WS.op rfl (op_ld (M3.sub _ _ hp) rfl rfl) ?_))
  refine WS.eqlN (a := (y.id).toNat) (b := (i).toNat) rfl rfl rfl (fun e7 => ?_) (fun e7 => ?_)
  ·
   refine WS.op rfl rfl (WS.nil [(3, _)] rfl ?_)
   refine WC.ret ?_
   refine ⟨[_], (res_tmp rfl res_nil), ?_⟩
   exact ⟨vbt (u64_inj e7), M3.bare.take 0⟩
  ·
   refine WS.op rfl rfl (WS.nil [(3, _)] rfl ?_)
   refine WC.ret ?_
   refine ⟨[_], (res_tmp rfl res_nil), ?_⟩
   exact ⟨vbf (fun q => e7 (by rw [q])), M3.bare.take 0⟩
theorem idxSes_ran (W : Mem h h [] []) {V : Value} {l : List Ses} {p : Nat} {i : UInt64} (A : KSes.Sl h V l) (hp : h.get p = some ⟨[.int .u64 ((i.toNat : Nat) : Int)], 0, false⟩) (hl : l.length ≤ 1000000) : Cll tab0 49 [V, .func (.func 50) #[] #[.pointer (some ⟨p, 0, none⟩)]] h (fun v h2 => ((v = .int .i64 (-1) ∧ NoId l i) ∨ (∃ (j : Nat) (y : Ses), v = .int .i64 (j : Int) ∧ IsAt l i j y)) ∧ Mem h h2 [] []) := by
  refine Cll.code rfl rfl ?_
  refine WC.env [(0, _), (1, _)] rfl ?_
  refine WC.seq ?_
  refine WC.run ?_
  refine WS.op rfl rfl (WS.nil [(0, _), (1, _)] rfl ?_)
  refine WC.seq ?_
  refine WC.seq ?_
  refine WC.run ?_
  refine WS.op rfl rfl (WS.op rfl (op_lenVS A rfl) (WS.op rfl rfl (WS.nil [(0, _), (1, _), (7, _), (8, _)] rfl ?_)))
  refine WC.block ?_
  obtain ⟨L1, eL3, M2⟩ := Mem.name W.bare
  refine WC.loop (σ := Nat) (fun (n) => [(0, V), (1, (.func (.func 50) #[] #[(.pointer (some ⟨p, 0, none⟩))])), (7, (.int .i64 (((l).length : Nat) : Int))), (8, (.int .i64 ((n : Nat) : Int)))]) (fun (n) hh => Mem h hh (L1) [] ∧ (∀ k z, k < n → l[k]? = some z → z.id ≠ i) ∧ n ≤ l.length) (fun (n) => l.length - n) (0) rfl ⟨M2, ?_⟩ ?_
  · exact ⟨fun k z q => by omega, by omega⟩
  ·rintro n h4 ⟨M5, ⟨hO, hi1⟩⟩
   subst eL3
   refine WC.env [(0, _), (1, _), (7, _), (8, _)] rfl ?_
   refine WC.seq ?_
   refine WC.run ?_
   refine WS.lssN (a := n) (b := (l).length) rfl rfl rfl (fun e9 => ?_) (fun e9 => ?_)
   ·
    refine WS.nil [(0, _), (1, _), (7, _), (8, _), (9, _)] rfl ?_
    refine WC.seq ?_
    refine WC.condT rfl ?_
    refine WC.skip ?_
    refine WC.seq ?_
    refine WC.block ?_
    refine WC.seq ?_
    refine WC.run ?_
    refine WS.op rfl rfl (WS.op rfl rfl (WS.nil [(0, _), (1, _), (5, _), (7, _), (8, _)] rfl ?_))
    refine WC.seq ?_
    refine WC.run ?_
    refine WS.op rfl rfl (WS.op rfl rfl (WS.op rfl rfl ?_))
    obtain ⟨y14, hy14⟩ : ∃ y, (l)[n]? = some y := ⟨_, List.getElem?_eq_getElem (show n < (l).length by first | omega | (simp only [List.length_drop, List.length_take, List.length_append, List.length_cons, List.length_nil, List.length_singleton]; omega) | (simp only [List.length_drop, List.length_take, List.length_append, List.length_cons, List.length_nil, List.length_singleton] at *; omega))⟩
    refine WS.iaVS A n hy14 rfl rfl rfl rfl ?_
    intro b14_ o14_ ha14
    refine WS.op rfl (op_ldAt rfl (ha14.mono M5.sub) rfl) ?_
    refine WS.call rfl rfl rfl (find1_ran M5.here (y := y14) (M5.sub _ _ hp)) ?_
    rintro _ h6 ⟨rfl, N7⟩
    have M8 := M5.trans N7
    refine WS.nil [(0, _), (1, _), (5, _), (7, _), (8, _), (16, _)] rfl ?_
    cases hb1 : (decide (y14.id = i))
    ·
     refine WC.condF rfl ?_
     refine WC.skip ?_
     refine WC.run ?_
     refine WS.opV (.int .i64 (((n + 1) : Nat) : Int)) rfl rfl (add_i64 (a := n) (b := 1) (by omega)) (WS.op rfl rfl (WS.nil [(0, _), (1, _), (7, _), (8, _)] rfl ?_))
     refine ⟨n + 1, rfl, ⟨(M8.bare.take 0), ?_⟩, ?_⟩
     · exact ⟨fun k z q e => by rcases Nat.lt_or_ge k n with w | w; exact hO k z w e; (have : k = n := by omega); subst this; rw [hy14] at e; cases e; exact of_decide_eq_false hb1, by omega⟩
     · simp only []; omega
    ·
     refine WC.condT rfl ?_
     refine WC.seq ?_
     refine WC.run ?_
     refine WS.op rfl rfl (WS.op rfl rfl (WS.nil [(4, _)] rfl ?_))
     refine WC.ret ?_
     refine ⟨[_], (res_tmp rfl res_nil), ?_⟩
     exact ⟨.inr ⟨n, y14, rfl, hy14, of_decide_eq_true hb1, hO⟩, M8.bare.take 0⟩
   ·
    refine WS.nil [(0, _), (1, _), (7, _), (8, _), (9, _)] rfl ?_
    refine WC.seq ?_
    refine WC.condF rfl ?_
    refine WC.exit ?_
    refine WC.seq ?_
    refine WC.run ?_
    refine WS.op rfl rfl (WS.nil [(4, _)] rfl ?_)
    refine WC.ret ?_
    refine ⟨[_], (res_tmp rfl res_nil), ?_⟩
    exact ⟨.inl ⟨rfl, fun y hy => by obtain ⟨k, hk, rfl⟩ := List.mem_iff_getElem.1 hy; exact hO k _ (by omega) (List.getElem?_eq_getElem hk)⟩, M5.bare.take 0⟩
theorem find_ran {t : Nat} {T : Tab} {V : Value} {S : Seg} {i : UInt64} (O : KSes.Grow V T.l S) (M : Mem base h (S :: [(t, ⟨[V, .int .u64 ((T.la.toNat : Nat) : Int)], 0, false⟩)] :: L) []) (hl : T.l.length ≤ 1000000) : Cll tab0 29 [.pointer (some ⟨t, 0, none⟩), .int .u64 ((i.toNat : Nat) : Int)] h (fun v h2 =>
    (v = .pointer none ∧ NoId T.l i ∧ Mem base h2 (S :: [(t, ⟨[V, .int .u64 ((T.la.toNat : Nat) : Int)], 0, false⟩)] :: L) []) ∨
    (∃ p jk j y, V = .slice (some ⟨p, 0, none⟩) T.l.length (2 * (T.l ++ jk).length) ∧ S = [(p, ⟨KSes.flat (T.l ++ jk), 5, false⟩)] ∧ v = .pointer (some ⟨p, 0 + j * 5, none⟩) ∧ T.l[j]? = some y ∧ y.id = i ∧ (∀ k z, k < j → T.l[k]? = some z → z.id ≠ i) ∧ Mem base h2 (S :: [(t, ⟨[V, .int .u64 ((T.la.toNat : Nat) : Int)], 0, false⟩)] :: L) [])) := by
  refine Cll.code rfl rfl ?_
  refine WC.env [(0, _), (1, _)] rfl ?_
  refine WC.seq ?_
  refine WC.run ?_
  refine WS.box M [_] rfl rfl rfl rfl ?_
  intro p1 h2 M3
  refine WS.op rfl rfl (WS.nil [(0, _), (3, _)] rfl ?_)
  refine WC.seq ?_
  refine WC.seq ?_
  refine WC.run ?_
  refine WS.op rfl rfl (WS.opV (.bool false) rfl rfl rfl (WS.nil [(0, _), (3, _), (7, _)] rfl ?_))
  refine WC.condF rfl ?_
  refine WC.skip ?_
  refine WC.seq ?_
  refine WC.run ?_
  refine WS.op rfl rfl (WS.op rfl rfl (WS.op rfl rfl (WS.op rfl (op_ld (M3.at 2 rfl) rfl rfl) (WS.op rfl rfl ?_))))
  refine WS.call rfl rfl rfl (idxSes_ran M3.here (Row.Grow.sl O (Mem.owni M3 1 rfl)) (i := i) (M3.at 0 rfl) (by omega)) ?_
  rintro _ h4 ⟨(⟨rfl, hnf⟩ | ⟨j, y, rfl, hat⟩), N5⟩
  ·
   have M7 := M3.trans N5
   refine WS.op rfl rfl (WS.nil [(0, _), (5, _)] rfl ?_)
   refine WC.seq ?_
   refine WC.seq ?_
   refine WC.run ?_
   refine WS.op rfl rfl (WS.opV (.bool true) rfl rfl rfl (WS.nil [(0, _), (5, _), (15, _)] rfl ?_))
   refine WC.condT rfl ?_
   refine WC.seq ?_
   refine WC.run ?_
   refine WS.op rfl rfl (WS.nil [(4, _)] rfl ?_)
   refine WC.ret ?_
   refine ⟨[_], (res_tmp rfl res_nil), ?_⟩
   exact .inl ⟨rfl, hnf, (M7.focus 0 rfl).drop⟩
  ·
   have M8 := M3.trans N5
   refine WS.op rfl rfl (WS.nil [(0, _), (5, _)] rfl ?_)
   refine WC.seq ?_
   refine WC.seq ?_
   refine WC.run ?_
   refine WS.op rfl rfl ?_
   refine WS.lssN (a := j) (b := 0) rfl rfl rfl (fun e15 => ?_) (fun e15 => ?_)
   ·
    exact absurd e15 (by omega)
   ·
    refine WS.nil [(0, _), (5, _), (15, _)] rfl ?_
    refine WC.condF rfl ?_
    refine WC.skip ?_
    refine WC.seq ?_
    refine WC.run ?_
    refine WS.op rfl rfl (WS.op rfl rfl (WS.op rfl rfl (WS.op rfl (op_ld (M8.at 2 rfl) rfl rfl) (WS.op rfl rfl ?_))))
    obtain ⟨hat1, hat2, hat3⟩ := hat
    obtain (⟨rfl, hl0, rfl⟩ | ⟨p, jk, rfl, rfl⟩) := O.cases'
    · rw [hl0] at hat1; simp at hat1
    have hj := (List.getElem?_eq_some_iff.1 hat1).1
    refine WS.op rfl (op_iaV2 j rfl rfl hj) (WS.op rfl rfl (WS.nil [(4, _)] rfl ?_))
    refine WC.ret ?_
    refine ⟨[_], (res_tmp rfl res_nil), ?_⟩
    exact .inr ⟨p, jk, j, y, rfl, rfl, rfl, hat1, hat2, hat3, (M8.focus 0 rfl).drop⟩
def openT (T : Tab) (ttl : UInt64) : Tab × UInt64 × UInt8 := if ttl.toNat = 0 then (T, 0, 11) else if T.l.length = 4 then (T, 0, 9) else (⟨T.l ++ [⟨T.la + 1, ttl, ttl, 0, []⟩], T.la + 1⟩, T.la + 1, 0)
theorem Open_ran {t : Nat} {T : Tab} {V : Value} {S : Seg} {ttl : UInt64} (O : KSes.Grow V T.l S) (M : Mem base h (S :: [(t, ⟨[V, .int .u64 ((T.la.toNat : Nat) : Int)], 0, false⟩)] :: L) []) (hl : T.l.length ≤ 1000) : Cll tab0 12 [.pointer (some ⟨t, 0, none⟩), .int .u64 ((ttl.toNat : Nat) : Int)] h (fun v h2 => ∃ V2 S2, KSes.Grow V2 (openT T ttl).1.l S2 ∧ v = .tuple #[.int .u64 (((openT T ttl).2.1.toNat : Nat) : Int), .int .u8 (((openT T ttl).2.2.toNat : Nat) : Int)] ∧ Mem base h2 (S2 :: [(t, ⟨[V2, .int .u64 (((openT T ttl).1.la.toNat : Nat) : Int)], 0, false⟩)] :: L) []) := by
  refine Cll.code rfl rfl ?_
  refine WC.env [(0, _), (1, _)] rfl ?_
  refine WC.seq ?_
  refine WC.run ?_
  refine WS.op rfl rfl (WS.op rfl rfl (WS.nil [(0, _), (1, _)] rfl ?_))
  refine WC.seq ?_
  refine WC.block ?_
  refine WC.seq ?_
  refine WC.run ?_
  refine WS.op rfl rfl (WS.opV (.bool false) rfl rfl rfl (WS.op rfl rfl (WS.nil [(0, _), (1, _), (6, _)] rfl ?_)))
  refine WC.condF rfl ?_
  refine WC.seq ?_
  refine WC.run ?_
  refine WS.op rfl rfl ?_
  refine WS.eqlN (a := (ttl).toNat) (b := 0) rfl rfl rfl (fun e11 => ?_) (fun e11 => ?_)
  ·
   refine WS.op rfl rfl (WS.nil [(0, _), (1, _), (9, _)] rfl ?_)
   refine WC.condT rfl ?_
   refine WC.seq ?_
   refine WC.run ?_
   refine WS.op rfl rfl (WS.op rfl rfl (WS.nil [(4, _), (5, _)] rfl ?_))
   refine WC.ret ?_
   refine ⟨[_, _], (res_tmp rfl (res_tmp rfl res_nil)), ?_⟩
   have hq : openT T ttl = (T, 0, 11) := by unfold openT; rw [if_pos (by omega)]
   rw [hq]
   exact ⟨_, _, O, rfl, M⟩
  ·
   refine WS.op rfl rfl (WS.nil [(0, _), (1, _), (9, _)] rfl ?_)
   refine WC.condF rfl ?_
   refine WC.seq ?_
   refine WC.run ?_
   refine WS.op rfl rfl (WS.op rfl rfl (WS.op rfl rfl (WS.op rfl (op_ld (M.at 1 rfl) rfl rfl) (WS.op rfl (op_lenVS (Row.Grow.sl O (Mem.owni M 0 rfl)) rfl) ?_))))
   refine WS.eqlN (a := (T.l).length) (b := 4) rfl rfl rfl (fun e18 => ?_) (fun e18 => ?_)
   ·
    refine WS.op rfl rfl (WS.nil [(0, _), (1, _), (12, _)] rfl ?_)
    refine WC.condT rfl ?_
    refine WC.seq ?_
    refine WC.run ?_
    refine WS.op rfl rfl (WS.op rfl rfl (WS.nil [(4, _), (5, _)] rfl ?_))
    refine WC.ret ?_
    refine ⟨[_, _], (res_tmp rfl (res_tmp rfl res_nil)), ?_⟩
    have hq : openT T ttl = (T, 0, 9) := by unfold openT; rw [if_neg (by omega), if_pos (by omega)]
    rw [hq]
    exact ⟨_, _, O, rfl, M⟩
   ·
    refine WS.op rfl rfl (WS.nil [(0, _), (1, _), (12, _)] rfl ?_)
    refine WC.condF rfl ?_
    refine WC.skip ?_
    refine WC.seq ?_
    refine WC.run ?_
    refine WS.op rfl rfl (WS.op rfl rfl (WS.op rfl rfl (WS.op rfl (op_ld (M.at 1 rfl) rfl rfl) (WS.opV (.int .u64 (((T.la + 1).toNat : Nat) : Int)) rfl rfl (add1_u64 (x := T.la)) (WS.op rfl rfl (WS.op rfl rfl ?_))))))
    refine WS.st1 (M.focus 1 rfl) [_] [_, _] rfl rfl rfl rfl rfl (Nat.le_of_ble_eq_true rfl) (Nat.le_of_ble_eq_true rfl) rfl rfl ?_
    intro h1 M2
    replace M2 : Mem _ _ ([(t, _)] :: S :: L) _ := M2
    refine WS.nil [(0, _), (1, _)] rfl ?_
    refine WC.seq ?_
    refine WC.draw M2 [12] rfl ?_
    intro rb3 h4 M5
    refine WS.op rfl rfl (WS.op rfl rfl (WS.op rfl rfl (WS.op rfl rfl (WS.op rfl (op_ld (M5.at 0 rfl) rfl rfl) (WS.op rfl rfl (WS.op rfl rfl (WS.op rfl rfl (WS.op rfl (op_ld (M5.at 0 rfl) rfl rfl) (WS.op rfl rfl ?_)))))))))
    refine WS.op rfl rfl (WS.opV (.agg #[(.int .u64 (((T.la + 1).toNat : Nat) : Int)), (.int .u64 (((ttl).toNat : Nat) : Int)), (.int .u64 (((ttl).toNat : Nat) : Int)), (.int .u64 (0 : Int)), (.string (bs ([])))]) rfl rfl rfl ?_)
    refine WS.bslA M5 [_, _, _, _, _] 0 rfl rfl rfl rfl rfl ?_
    intro h7 M8
    refine WS.appG (l := T.l) (m := [(⟨T.la + 1, ttl, ttl, 0, []⟩ : Ses)]) O (M8.focus 2 rfl) (Row.Src.one (K := KSes) (m := [(⟨T.la + 1, ttl, ttl, 0, []⟩ : Ses)]) (M8.at 0 rfl)) (by simp) rfl (by simp only [List.length_cons, List.length_nil]; omega) (by simp only [List.length_cons, List.length_nil]; omega) rfl rfl rfl ?_
    intro V9 S10 h11 O12 M13
    replace M13 : Mem _ _ (S10 :: [((rb3 + 12), _)] :: [(t, _)] :: L) _ := M13
    refine WS.op rfl rfl (WS.op rfl rfl ?_)
    refine WS.st1 (M13.focus 2 rfl) [_] [_, _] rfl rfl rfl (Row.Grow.one O12).1 rfl (Nat.le_of_ble_eq_true rfl) (Nat.le_of_ble_eq_true rfl) (by simp only [List.all_cons, List.all_nil, Bool.and_true]; exact (Row.Grow.one O12).2) rfl ?_
    intro h14 M15
    replace M15 : Mem _ _ ([(t, _)] :: S10 :: [((rb3 + 12), _)] :: L) _ := M15
    refine WS.nil [(0, _)] rfl ?_
    refine WC.seq ?_
    refine WC.run ?_
    refine WS.op rfl rfl (WS.op rfl rfl (WS.op rfl rfl (WS.op rfl (op_ld (M15.bare.at 0 rfl) rfl rfl) (WS.op rfl rfl (WS.op rfl rfl (WS.nil [(4, _), (5, _)] rfl ?_))))))
    refine WC.ret ?_
    refine ⟨[_, _], (res_tmp rfl (res_tmp rfl res_nil)), ?_⟩
    have hq : openT T ttl = (⟨T.l ++ [⟨T.la + 1, ttl, ttl, 0, []⟩], T.la + 1⟩, T.la + 1, 0) := by unfold openT; rw [if_neg (by omega), if_neg (by omega)]
    rw [hq]
    exact ⟨_, _, O12, rfl, ((((M15.bare.focus 2 rfl).drop).focus 0 rfl).focus 1 rfl)⟩
def SetG (T : Tab) (j : Nat) (y : Ses) : Tab := ⟨T.l.set j y, T.la⟩
theorem grow_set {p j : Nat} {l jk : List Ses} {y : Ses} (hj : j < l.length) : KSes.Grow (.slice (some ⟨p, 0, none⟩) l.length (2 * (l ++ jk).length)) (l.set j y) [(p, ⟨KSes.flat ((l ++ jk).set j y), 5, false⟩)] := by
  have := Row.Grow.row (K := KSes) p (l.set j y) jk
  rw [List.length_set, show (l.set j y ++ jk).length = (l ++ jk).length by simp, ← List.set_append_left _ _ hj] at this
  exact this
set_option maxRecDepth 8000 in
theorem Look_ran {t : Nat} {T : Tab} {V : Value} {S : Seg} {i sq : UInt64} (O : KSes.Grow V T.l S) (M : Mem base h (S :: [(t, ⟨[V, .int .u64 ((T.la.toNat : Nat) : Int)], 0, false⟩)] :: L) []) (hl : T.l.length ≤ 1000) (hk : ∀ y ∈ T.l, y.kp.length ≤ 299000) : Cll tab0 13 [.pointer (some ⟨t, 0, none⟩), .int .u64 ((i.toNat : Nat) : Int), .int .u64 ((sq.toNat : Nat) : Int)] h (fun v h2 => ∃ V2 S2 T2 r Vr Sr ag cd, KSes.Grow V2 (Tab.l T2) S2 ∧ KRrow.Own Vr (Res.rs r) Sr ∧ v = .tuple #[r.val Vr, .bool ag, .int .u8 ((UInt8.toNat cd : Nat) : Int)] ∧ FitRes r ∧
    ((NoId T.l i ∧ T2 = T ∧ r = zeroR ∧ ag = false ∧ cd = 5) ∨ (∃ j y, IsAt T.l i j y ∧ T2 = SetG T j { y with lf := y.tt } ∧ ((sq.toNat = 0 ∨ sq.toNat < y.sq.toNat) → r = zeroR ∧ ag = false ∧ cd = 6) ∧ (¬ (sq.toNat = 0 ∨ sq.toNat < y.sq.toNat) → sq = y.sq → ag = true ∧ cd = 0 ∧ ∃ ok, RdR y.kp r ok) ∧ (¬ (sq.toNat = 0 ∨ sq.toNat < y.sq.toNat) → sq ≠ y.sq → r = zeroR ∧ ag = false ∧ cd = 0))) ∧ Mem base h2 (S2 :: Sr :: [(t, ⟨[V2, .int .u64 ((T2.la.toNat : Nat) : Int)], 0, false⟩)] :: L) []) := by
  refine Cll.code rfl rfl ?_
  refine WC.env [(0, _), (1, _), (2, _)] rfl ?_
  refine WC.seq ?_
  refine WC.run ?_
  refine WS.new M rfl ?_
  intro p1 h2 M3
  refine WS.op rfl rfl (WS.op rfl rfl (WS.nil [(0, _), (1, _), (2, _), (6, _)] rfl ?_))
  refine WC.seq ?_
  refine WC.run ?_
  refine WS.op rfl rfl (WS.op rfl rfl ?_)
  refine WS.call rfl rfl rfl (find_ran (T := T) (i := i) O ((M3.focus 2 rfl).focus 2 rfl) (by omega)) ?_
  rintro _ h4 (⟨rfl, hnf14, M5⟩ | ⟨p6, jk7, j8, y9, hV14, hS14, rfl, hy14, hi14, hm14, M5⟩)
  ·
   replace M5 : Mem _ _ (S :: [(t, _)] :: [(p1, _)] :: L) _ := M5
   refine WS.op rfl rfl (WS.nil [(2, _), (6, _), (9, _)] rfl ?_)
   refine WC.seq ?_
   refine WC.seq ?_
   refine WC.run ?_
   refine WS.op rfl rfl (WS.opV (.bool true) rfl rfl rfl (WS.nil [(2, _), (6, _), (9, _), (16, _)] rfl ?_))
   refine WC.condT rfl ?_
   refine WC.seq ?_
   refine WC.run ?_
   refine WS.opV (.agg #[(.int .u8 (0 : Int)), (.int .u64 (0 : Int)), (.string (bs ([]))), (.slice none 0 0)]) rfl rfl rfl ?_
   refine WS.st1 (M5.focus 2 rfl) [_, _, _, _] [_, _, _, _] rfl rfl rfl rfl rfl (Nat.le_of_ble_eq_true rfl) (Nat.le_of_ble_eq_true rfl) rfl rfl ?_
   intro h10 M11
   replace M11 : Mem _ _ ([(p1, _)] :: S :: [(t, _)] :: L) _ := M11
   refine WS.op rfl rfl (WS.op rfl rfl (WS.nil [(6, _), (7, _), (8, _)] rfl ?_))
   refine WC.ret ?_
   refine ⟨[_, _, _], (res_cellN [_, _, _, _] rfl (M11.at 0 rfl) (Nat.le_of_ble_eq_true rfl) rfl (res_tmp rfl (res_tmp rfl res_nil))), ?_⟩
   exact ⟨_, _, T, zeroR, .slice none 0 0, [], false, 5, O, .nil, rfl, fitR0, .inl ⟨hnf14, rfl, rfl, rfl, rfl⟩, (((M11.focus 0 rfl).drop).nils.focus 1 rfl)⟩
  ·
   subst hV14 hS14
   replace M5 : Mem _ _ ([(p6, _)] :: [(t, _)] :: [(p1, _)] :: L) _ := M5
   have hz14 : ((T.l ++ jk7))[j8]? = some y9 := by rw [List.getElem?_append_left (List.getElem?_eq_some_iff.1 hy14).1]; exact hy14
   refine WS.op rfl rfl (WS.nil [(2, _), (6, _), (9, _)] rfl ?_)
   refine WC.seq ?_
   refine WC.seq ?_
   refine WC.run ?_
   refine WS.op rfl rfl (WS.opV (.bool false) rfl rfl rfl (WS.nil [(2, _), (6, _), (9, _), (16, _)] rfl ?_))
   refine WC.condF rfl ?_
   refine WC.skip ?_
   refine WC.seq ?_
   refine WC.run ?_
   refine WS.op rfl rfl (WS.op rfl rfl (WS.op rfl rfl (WS.op rfl rfl (WS.op rfl (op_ldH rfl (Row.ld (K := KSes) (k := 1) (M5.at 0 rfl) hz14 rfl)) (WS.op rfl rfl (WS.op rfl rfl ?_))))))
   refine WS.stE (K := KSes) (y' := { y9 with lf := y9.tt }) (M5.focus 0 rfl) hz14 (by decide) rfl rfl rfl rfl rfl rfl ?_
   intro h12 M13
   replace M13 : Mem _ _ ([(p6, _)] :: [(t, _)] :: [(p1, _)] :: L) _ := M13
   have hye14 : ((T.l ++ jk7).set j8 { y9 with lf := y9.tt })[j8]? = some ({ y9 with lf := y9.tt } : Ses) := List.getElem?_set_self (List.getElem?_eq_some_iff.1 hz14).1
   refine WS.nil [(2, _), (6, _), (9, _)] rfl ?_
   refine WC.seq ?_
   refine WC.block ?_
   refine WC.seq ?_
   refine WC.run ?_
   refine WS.op rfl rfl ?_
   refine WS.eqlN (a := (sq).toNat) (b := 0) rfl rfl rfl (fun e27 => ?_) (fun e27 => ?_)
   ·
    refine WS.op rfl rfl (WS.off rfl (WS.off rfl (WS.off rfl (WS.off rfl (WS.off rfl (WS.off rfl (WS.op rfl rfl (WS.op rfl rfl (WS.nil [(2, _), (6, _), (9, _), (25, _)] rfl ?_)))))))))
    refine WC.condT rfl ?_
    refine WC.seq ?_
    refine WC.run ?_
    refine WS.opV (.agg #[(.int .u8 (0 : Int)), (.int .u64 (0 : Int)), (.string (bs ([]))), (.slice none 0 0)]) rfl rfl rfl ?_
    refine WS.st1 (M13.focus 2 rfl) [_, _, _, _] [_, _, _, _] rfl rfl rfl rfl rfl (Nat.le_of_ble_eq_true rfl) (Nat.le_of_ble_eq_true rfl) rfl rfl ?_
    intro h15 M16
    replace M16 : Mem _ _ ([(p1, _)] :: [(p6, _)] :: [(t, _)] :: L) _ := M16
    refine WS.op rfl rfl (WS.op rfl rfl (WS.nil [(6, _), (7, _), (8, _)] rfl ?_))
    refine WC.ret ?_
    refine ⟨[_, _, _], (res_cellN [_, _, _, _] rfl (M16.at 0 rfl) (Nat.le_of_ble_eq_true rfl) rfl (res_tmp rfl (res_tmp rfl res_nil))), ?_⟩
    exact ⟨_, _, SetG T j8 { y9 with lf := y9.tt }, zeroR, .slice none 0 0, [], false, 6, grow_set (List.getElem?_eq_some_iff.1 hy14).1, .nil, rfl, fitR0, .inr ⟨j8, y9, ⟨hy14, hi14, hm14⟩, rfl, fun q => ⟨rfl, rfl, rfl⟩, fun q e => by exfalso; first | omega | (subst e; omega), fun q e => by exfalso; omega⟩, (((M16.focus 0 rfl).drop).nils.focus 1 rfl)⟩
   ·
    refine WS.op rfl rfl (WS.op rfl rfl (WS.op rfl rfl (WS.op rfl rfl (WS.op rfl rfl (WS.op rfl (op_ldH rfl (Row.ld (K := KSes) (k := 3) (M13.at 0 rfl) hye14 rfl)) ?_)))))
    refine WS.lssN (a := (sq).toNat) (b := (y9.sq).toNat) rfl rfl rfl (fun e34 => ?_) (fun e34 => ?_)
    ·
     refine WS.op rfl rfl (WS.op rfl rfl (WS.nil [(2, _), (6, _), (9, _), (25, _)] rfl ?_))
     refine WC.condT rfl ?_
     refine WC.seq ?_
     refine WC.run ?_
     refine WS.opV (.agg #[(.int .u8 (0 : Int)), (.int .u64 (0 : Int)), (.string (bs ([]))), (.slice none 0 0)]) rfl rfl rfl ?_
     refine WS.st1 (M13.focus 2 rfl) [_, _, _, _] [_, _, _, _] rfl rfl rfl rfl rfl (Nat.le_of_ble_eq_true rfl) (Nat.le_of_ble_eq_true rfl) rfl rfl ?_
     intro h17 M18
     replace M18 : Mem _ _ ([(p1, _)] :: [(p6, _)] :: [(t, _)] :: L) _ := M18
     refine WS.op rfl rfl (WS.op rfl rfl (WS.nil [(6, _), (7, _), (8, _)] rfl ?_))
     refine WC.ret ?_
     refine ⟨[_, _, _], (res_cellN [_, _, _, _] rfl (M18.at 0 rfl) (Nat.le_of_ble_eq_true rfl) rfl (res_tmp rfl (res_tmp rfl res_nil))), ?_⟩
     exact ⟨_, _, SetG T j8 { y9 with lf := y9.tt }, zeroR, .slice none 0 0, [], false, 6, grow_set (List.getElem?_eq_some_iff.1 hy14).1, .nil, rfl, fitR0, .inr ⟨j8, y9, ⟨hy14, hi14, hm14⟩, rfl, fun q => ⟨rfl, rfl, rfl⟩, fun q e => by exfalso; first | omega | (subst e; omega), fun q e => by exfalso; omega⟩, (((M18.focus 0 rfl).drop).nils.focus 1 rfl)⟩
    ·
     refine WS.op rfl rfl (WS.op rfl rfl (WS.nil [(2, _), (6, _), (9, _), (25, _)] rfl ?_))
     refine WC.condF rfl ?_
     refine WC.seq ?_
     refine WC.run ?_
     refine WS.op rfl rfl (WS.op rfl rfl (WS.op rfl rfl (WS.op rfl rfl (WS.op rfl (op_ldH rfl (Row.ld (K := KSes) (k := 3) (M13.at 0 rfl) hye14 rfl)) ?_))))
     refine WS.eqlN (a := (sq).toNat) (b := (y9.sq).toNat) rfl rfl rfl (fun e43 => ?_) (fun e43 => ?_)
     ·
      refine WS.op rfl rfl (WS.nil [(6, _), (9, _), (37, _)] rfl ?_)
      refine WC.condT rfl ?_
      refine WC.seq ?_
      refine WC.run ?_
      refine WS.op rfl rfl (WS.op rfl rfl (WS.op rfl rfl (WS.op rfl (op_ldH rfl (Row.ld (K := KSes) (k := 4) (M13.at 0 rfl) hye14 rfl)) ?_)))
      refine WS.call rfl rfl rfl (ReadR_ran M13.here (s := y9.kp) (by first | omega | exact hk _ (List.mem_of_getElem? hy14))) ?_
      rintro _ h19 ⟨r49, V22, S23, ok49, O24, rfl, hF49, hy49, hn49, hC49, N20⟩
      obtain ⟨P25, rfl⟩ := O24.shape
      have M21 := M13.trans N20
      replace M21 : Mem _ _ (S23 :: [(p6, _)] :: [(t, _)] :: [(p1, _)] :: L) _ := M21
      refine WS.op rfl rfl (WS.op rfl rfl (WS.op rfl rfl ?_))
      refine WS.new M21 rfl ?_
      intro p26 h27 M28
      refine WS.st1 (M28.focus 0 rfl) [_, _, _, _] [_, _, _, _] rfl rfl rfl rfl rfl (Nat.le_of_ble_eq_true rfl) (Nat.le_of_ble_eq_true rfl) rfl rfl ?_
      intro h29 M30
      replace M30 : Mem _ _ ([(p26, _)] :: S23 :: [(p6, _)] :: [(t, _)] :: [(p1, _)] :: L) _ := M30
      refine WS.op rfl rfl (WS.nil [(6, _), (10, _)] rfl ?_)
      refine WC.seq ?_
      refine WC.run ?_
      refine WS.op rfl (op_lds [_, _, _, _] (M30.at 0 rfl) rfl (Nat.le_of_ble_eq_true rfl) rfl) ?_
      refine WS.st1 (M30.focus 4 rfl) [_, _, _, _] [_, _, _, _] rfl rfl rfl rfl rfl (Nat.le_of_ble_eq_true rfl) (Nat.le_of_ble_eq_true rfl) rfl rfl ?_
      intro h31 M32
      replace M32 : Mem _ _ ([(p1, _)] :: [(p26, _)] :: S23 :: [(p6, _)] :: [(t, _)] :: L) _ := M32
      refine WS.op rfl rfl (WS.op rfl rfl (WS.nil [(6, _), (7, _), (8, _)] rfl ?_))
      refine WC.ret ?_
      refine ⟨[_, _, _], (res_cellN [_, _, _, _] rfl (M32.at 0 rfl) (Nat.le_of_ble_eq_true rfl) rfl (res_tmp rfl (res_tmp rfl res_nil))), ?_⟩
      exact ⟨_, _, SetG T j8 { y9 with lf := y9.tt }, r49, _, _, true, 0, grow_set (List.getElem?_eq_some_iff.1 hy14).1, O24, rfl, hF49, .inr ⟨j8, y9, ⟨hy14, hi14, hm14⟩, rfl, fun q => by exfalso; omega, fun q e => ⟨rfl, rfl, ok49, hC49⟩, fun q e => absurd (u64_inj (by first | assumption | omega)) e⟩, (((((((M32.focus 0 rfl).drop).focus 0 rfl).drop).focus 2 rfl).focus 1 rfl).focus 2 rfl)⟩
     ·
      refine WS.op rfl rfl (WS.nil [(6, _), (9, _), (37, _)] rfl ?_)
      refine WC.condF rfl ?_
      refine WC.skip ?_
      refine WC.seq ?_
      refine WC.run ?_
      refine WS.opV (.agg #[(.int .u8 (0 : Int)), (.int .u64 (0 : Int)), (.string (bs ([]))), (.slice none 0 0)]) rfl rfl rfl ?_
      refine WS.st1 (M13.focus 2 rfl) [_, _, _, _] [_, _, _, _] rfl rfl rfl rfl rfl (Nat.le_of_ble_eq_true rfl) (Nat.le_of_ble_eq_true rfl) rfl rfl ?_
      intro h33 M34
      replace M34 : Mem _ _ ([(p1, _)] :: [(p6, _)] :: [(t, _)] :: L) _ := M34
      refine WS.op rfl rfl (WS.op rfl rfl (WS.nil [(6, _), (7, _), (8, _)] rfl ?_))
      refine WC.ret ?_
      refine ⟨[_, _, _], (res_cellN [_, _, _, _] rfl (M34.at 0 rfl) (Nat.le_of_ble_eq_true rfl) rfl (res_tmp rfl (res_tmp rfl res_nil))), ?_⟩
      exact ⟨_, _, SetG T j8 { y9 with lf := y9.tt }, zeroR, .slice none 0 0, [], false, 0, grow_set (List.getElem?_eq_some_iff.1 hy14).1, .nil, rfl, fitR0, .inr ⟨j8, y9, ⟨hy14, hi14, hm14⟩, rfl, fun q => by exfalso; omega, fun q e => by exfalso; first | omega | (subst e; omega), fun q e => ⟨rfl, rfl, rfl⟩⟩, (((M34.focus 0 rfl).drop).nils.focus 1 rfl)⟩
end Go.Proofs.Ytomaijljeacpjaa.Wt
namespace Go.Proofs.Ytomaijljeacpjaa.Wt
open Go Go.Proofs.Ytomaijljeacpjaa.Am Go.Proofs.Ytomaijljeacpjaa.IrAll
set_option linter.unusedVariables false
set_option linter.unusedSimpArgs false
variable {h base : H} {L : List Seg} {R : List Nat}
def Alive (y : Ses) : Prop := y.lf.toNat ≠ 0
instance (y : Ses) : Decidable (Alive y) := by unfold Alive; infer_instance
def alive (l : List Ses) : List Ses := l.filter (fun y => decide (Alive y))
def dec1 (y : Ses) : Ses := { y with lf := y.lf - 1 }
def tickT (T : Tab) : Tab := ⟨alive (T.l.map dec1), T.la⟩
theorem sub1_u64 {x : UInt64} : Value.int .u64 (IntKind.u64.wrap ((x.toNat : Int) - 1)) = .int .u64 (((x - 1).toNat : Nat) : Int) := by
  congr 1
  rw [UInt64.toNat_sub, wu64]
  have := x.toNat_lt
  show _ = (((2 ^ 64 - 1 + x.toNat) % 2 ^ 64 : Nat) : Int)
  omega
theorem tick1_ran (W : Mem h h [] []) {y : Ses} : Cll tab0 33 [.agg (Ses.cells y).toArray] h (fun v h2 => v = .bool (!decide (Alive y)) ∧ Mem h h2 [] []) := by
  refine Cll.code rfl rfl ?_
  refine WC.env [(0, _)] rfl ?_
  refine WC.seq ?_
  refine WC.run ?_
  refine WS.box W [_, _, _, _, _] rfl rfl rfl rfl ?_
  intro p1 h2 M3
  refine WS.op rfl rfl (WS.nil [(1, _)] rfl ?_)
  refine WC.seq ?_
  refine WC.run ?_
  refine WS.op rfl rfl (WS.op rfl (op_ld (M3.at 0 rfl) rfl rfl) ?_)
  refine WS.eqlN (a := (y.lf).toNat) (b := 0) rfl rfl rfl (fun e5 => ?_) (fun e5 => ?_)
  ·
   refine WS.op rfl rfl (WS.nil [(2, _)] rfl ?_)
   refine WC.ret ?_
   refine ⟨[_], (res_tmp rfl res_nil), ?_⟩
   exact ⟨by rw [decide_eq_false (fun q => q e5)]; rfl, M3.bare.take 0⟩
  ·
   refine WS.op rfl rfl (WS.nil [(2, _)] rfl ?_)
   refine WC.ret ?_
   refine ⟨[_], (res_tmp rfl res_nil), ?_⟩
   exact ⟨by rw [decide_eq_true (show Alive y from e5)]; rfl, M3.bare.take 0⟩
theorem idxT_ran (W : Mem h h [] []) {V : Value} {l : List Ses} (A : KSes.Sl h V l) (hl : l.length ≤ 1000000) : Cll tab0 49 [V, .func (.func 33) #[] #[]] h (fun v h2 => ((v = .int .i64 (-1) ∧ ∀ y ∈ l, Alive y) ∨ (∃ (j : Nat) (y : Ses), v = .int .i64 (j : Int) ∧ l[j]? = some y ∧ ¬ Alive y ∧ ∀ k z, k < j → l[k]? = some z → Alive z)) ∧ Mem h h2 [] []) := by
  refine Cll.code rfl rfl ?_
  refine WC.env [(0, _), (1, _)] rfl ?_
  refine WC.seq ?_
  refine WC.run ?_
  refine WS.op rfl rfl (WS.nil [(0, _), (1, _)] rfl ?_)
  refine WC.seq ?_
  refine WC.seq ?_
  refine WC.run ?_
  refine WS.op rfl rfl (WS.op rfl (op_lenVS A rfl) (WS.op rfl rfl (WS.nil [(0, _), (1, _), (7, _), (8, _)] rfl ?_)))
  refine WC.block ?_
  obtain ⟨L1, eL3, M2⟩ := Mem.name W.bare
  refine WC.loop (σ := Nat) (fun (n) => [(0, V), (1, (.func (.func 33) #[] #[])), (7, (.int .i64 (((l).length : Nat) : Int))), (8, (.int .i64 ((n : Nat) : Int)))]) (fun (n) hh => Mem h hh (L1) [] ∧ (∀ k z, k < n → l[k]? = some z → Alive z) ∧ n ≤ l.length) (fun (n) => l.length - n) (0) rfl ⟨M2, ?_⟩ ?_
  · exact ⟨fun k z q => by omega, by omega⟩
  ·rintro n h4 ⟨M5, ⟨hO, hi1⟩⟩
   replace eL3 := eL3.symm; subst eL3
   refine WC.env [(0, _), (1, _), (7, _), (8, _)] rfl ?_
   refine WC.seq ?_
   refine WC.run ?_
   refine WS.lssN (a := n) (b := (l).length) rfl rfl rfl (fun e9 => ?_) (fun e9 => ?_)
   ·
    refine WS.nil [(0, _), (1, _), (7, _), (8, _), (9, _)] rfl ?_
    refine WC.seq ?_
    refine WC.condT rfl ?_
    refine WC.skip ?_
    refine WC.seq ?_
    refine WC.block ?_
    refine WC.seq ?_
    refine WC.run ?_
    refine WS.op rfl rfl (WS.op rfl rfl (WS.nil [(0, _), (1, _), (5, _), (7, _), (8, _)] rfl ?_))
    refine WC.seq ?_
    refine WC.run ?_
    refine WS.op rfl rfl (WS.op rfl rfl (WS.op rfl rfl ?_))
    obtain ⟨y14, hy14⟩ : ∃ y, (l)[n]? = some y := ⟨_, List.getElem?_eq_getElem (show n < (l).length by first | omega | (simp only [List.length_drop, List.length_take, List.length_append, List.length_cons, List.length_nil, List.length_singleton]; omega) | (simp only [List.length_drop, List.length_take, List.length_append, List.length_cons, List.length_nil, List.length_singleton] at *; omega))⟩
    refine WS.iaVS A n hy14 rfl rfl rfl rfl ?_
    intro b14_ o14_ ha14
    refine WS.op rfl (op_ldAt rfl (ha14.mono M5.sub) rfl) ?_
    refine WS.call rfl rfl rfl (tick1_ran M5.here (y := y14)) ?_
    rintro _ h6 ⟨rfl, N7⟩
    have M8 := M5.trans N7
    refine WS.nil [(0, _), (1, _), (5, _), (7, _), (8, _), (16, _)] rfl ?_
    cases hb1 : (!decide (Alive y14))
    ·
     refine WC.condF rfl ?_
     refine WC.skip ?_
     refine WC.run ?_
     refine WS.opV (.int .i64 (((n + 1) : Nat) : Int)) rfl rfl (add_i64 (a := n) (b := 1) (by omega)) (WS.op rfl rfl (WS.nil [(0, _), (1, _), (7, _), (8, _)] rfl ?_))
     refine ⟨n + 1, rfl, ⟨(M8.bare.take 0), ?_⟩, ?_⟩
     · exact ⟨fun k z q e => by rcases Nat.lt_or_ge k n with w | w; exact hO k z w e; (have : k = n := by omega); subst this; rw [hy14] at e; cases e; simpa using hb1, by omega⟩
     · simp only []; omega
    ·
     refine WC.condT rfl ?_
     refine WC.seq ?_
     refine WC.run ?_
     refine WS.op rfl rfl (WS.op rfl rfl (WS.nil [(4, _)] rfl ?_))
     refine WC.ret ?_
     refine ⟨[_], (res_tmp rfl res_nil), ?_⟩
     exact ⟨.inr ⟨n, y14, rfl, hy14, by simpa using hb1, hO⟩, M8.bare.take 0⟩
   ·
    refine WS.nil [(0, _), (1, _), (7, _), (8, _), (9, _)] rfl ?_
    refine WC.seq ?_
    refine WC.condF rfl ?_
    refine WC.exit ?_
    refine WC.seq ?_
    refine WC.run ?_
    refine WS.op rfl rfl (WS.nil [(4, _)] rfl ?_)
    refine WC.ret ?_
    refine ⟨[_], (res_tmp rfl res_nil), ?_⟩
    exact ⟨.inl ⟨rfl, fun y hy => by obtain ⟨k, hk, rfl⟩ := List.mem_iff_getElem.1 hy; exact hO k _ (by omega) (List.getElem?_eq_getElem hk)⟩, M5.bare.take 0⟩
theorem alive_all {l : List Ses} (h : ∀ y ∈ l, Alive y) : alive l = l := List.filter_eq_self.2 (fun y hy => decide_eq_true (h y hy))
theorem alive_step {l : List Ses} {j : Nat} {y : Ses} (hy : l[j]? = some y) : alive (l.take (j + 1)) = alive (l.take j) ++ (if Alive y then [y] else []) := by
  rw [List.take_add_one, hy]
  unfold alive
  rw [List.filter_append]
  congr 1
  by_cases q : Alive y
  · rw [if_pos q]; simp [q]
  · rw [if_neg q]; simp [q]
theorem set_take {α : Type} {q : List α} {i : Nat} {y : α} (h : i < q.length) : (q.set i y).take (i + 1) = q.take i ++ [y] := by
  rw [List.set_eq_take_append_cons_drop, if_pos h, List.take_append, List.take_of_length_le (by simp; omega), List.length_take, Nat.min_eq_left (by omega), show i + 1 - i = 1 by omega]; rfl
theorem set_drop {α : Type} {q : List α} {i j : Nat} {y : α} (h : i < j) : (q.set i y).drop j = q.drop j := by
  rw [List.drop_set]; rw [if_pos h]
set_option maxRecDepth 8000 in
theorem Del_ran {p : Nat} {l jk : List Ses} (M : Mem base h ([(p, ⟨KSes.flat (l ++ jk), 5, false⟩)] :: L) []) (hl : l.length ≤ 1000) : Cll tab0 32 [.slice (some ⟨p, 0, none⟩) l.length (2 * (l ++ jk).length), .func (.func 33) #[] #[]] h (fun v h2 => ∃ j2, v = .slice (some ⟨p, 0, none⟩) (alive l).length (2 * (alive l ++ j2).length) ∧ Mem base h2 ([(p, ⟨KSes.flat (alive l ++ j2), 5, false⟩)] :: L) []) := by
  refine Cll.code rfl rfl ?_
  refine WC.env [(0, _), (1, _)] rfl ?_
  refine WC.seq ?_
  refine WC.run ?_
  refine WS.op rfl rfl (WS.nil [(0, _), (1, _)] rfl ?_)
  refine WC.seq ?_
  refine WC.run ?_
  refine WS.op rfl rfl (WS.op rfl rfl ?_)
  have hsl := Row.Grow.sl (Row.Grow.row (K := KSes) p l jk) (Mem.owni M 0 rfl)
  refine WS.call rfl rfl rfl (idxT_ran M.here hsl (by omega)) ?_
  rintro _ h1 ⟨(⟨rfl, hall⟩ | ⟨j0, y0, rfl, hj0, hna, hbe⟩), N2⟩
  ·
   have M4 := M.trans N2
   refine WS.op rfl rfl (WS.nil [(0, _), (1, _), (5, _)] rfl ?_)
   refine WC.seq ?_
   refine WC.seq ?_
   refine WC.run ?_
   refine WS.op rfl rfl (WS.opV (.bool true) rfl rfl rfl (WS.nil [(0, _), (1, _), (5, _), (12, _)] rfl ?_))
   refine WC.condT rfl ?_
   refine WC.seq ?_
   refine WC.run ?_
   refine WS.op rfl rfl (WS.op rfl rfl (WS.nil [(4, _)] rfl ?_))
   refine WC.ret ?_
   refine ⟨[_], (res_tmp rfl res_nil), ?_⟩
   rw [alive_all hall]
   exact ⟨jk, rfl, M4⟩
  ·
   have M5 := M.trans N2
   have hj0l := (List.getElem?_eq_some_iff.1 hj0).1
   refine WS.op rfl rfl (WS.nil [(0, _), (1, _), (5, _)] rfl ?_)
   refine WC.seq ?_
   refine WC.seq ?_
   refine WC.run ?_
   refine WS.op rfl rfl ?_
   refine WS.eql (a := ((j0 : Nat) : Int)) (b := (-1 : Int)) rfl rfl rfl (fun e12 => ?_) (fun e12 => ?_)
   ·
    exact absurd e12 (by omega)
   ·
    refine WS.nil [(0, _), (1, _), (5, _), (12, _)] rfl ?_
    refine WC.condF rfl ?_
    refine WC.skip ?_
    refine WC.seq ?_
    refine WC.seq ?_
    refine WC.run ?_
    refine WS.op rfl rfl (WS.opV (.int .i64 (((j0 + 1) : Nat) : Int)) rfl rfl (add_i64 (a := j0) (b := 1) (by omega)) (WS.op rfl rfl (WS.nil [(0, _), (1, _), (5, _), (6, _)] rfl ?_)))
    refine WC.block ?_
    obtain ⟨L6, eL8, M7⟩ := Mem.name1 (M5.bare.focus 0 rfl)
    refine WC.loop (σ := List Ses × Nat × Nat) (fun ((q, i, j)) => [(0, (.slice (some ⟨p, 0, none⟩) l.length (2 * (l ++ jk).length))), (1, (.func (.func 33) #[] #[])), (5, (.int .i64 ((i : Nat) : Int))), (6, (.int .i64 ((j : Nat) : Int)))]) (fun ((q, i, j)) hh => Mem base hh ([(p, ⟨KSes.flat q, 5, false⟩)] :: L6) [] ∧ q.length = (l ++ jk).length ∧ i < j ∧ j ≤ l.length ∧ q.take i = alive (l.take j) ∧ q.drop j = (l ++ jk).drop j) (fun ((q, i, j)) => l.length - j) ((l ++ jk), j0, j0 + 1) rfl ⟨(by exact M7), ?_⟩ ?_
    · refine ⟨rfl, by omega, by omega, ?_, rfl⟩; rw [alive_step hj0, if_neg hna, List.append_nil, List.take_append_of_le_length (by omega), alive_all (fun y hy => by obtain ⟨k, hk, e⟩ := List.mem_iff_getElem.1 hy; rw [List.length_take] at hk; rw [List.getElem_take] at e; exact hbe k y (by omega) (by rw [← e]; exact List.getElem?_eq_getElem (by omega)))]
    ·rintro ⟨q, i, j⟩ h9 ⟨M10, ⟨hql, hij, hjl, hT, hD⟩⟩
     replace eL8 := eL8.symm; subst eL8
     refine WC.env [(0, _), (1, _), (5, _), (6, _)] rfl ?_
     have hqt : q.length = l.length + jk.length := by rw [hql, List.length_append]
     refine WC.seq ?_
     refine WC.seq ?_
     refine WC.run ?_
     refine WS.op rfl rfl (WS.op rfl rfl (WS.op rfl rfl ?_))
     refine WS.lssN (a := j) (b := l.length) rfl rfl rfl (fun e19 => ?_) (fun e19 => ?_)
     ·
      refine WS.nil [(0, _), (1, _), (5, _), (6, _), (19, _)] rfl ?_
      refine WC.condT rfl ?_
      refine WC.skip ?_
      refine WC.seq ?_
      refine WC.block ?_
      refine WC.seq ?_
      refine WC.run ?_
      refine WS.op rfl rfl (WS.op rfl rfl ?_)
      obtain ⟨y24, hy24⟩ : ∃ y, (q)[j]? = some y := ⟨_, List.getElem?_eq_getElem (show j < (q).length by omega)⟩
      have hyl : l[j]? = some y24 := by have e1 := congrArg (fun z => z[0]?) hD; simp only [List.getElem?_drop, Nat.add_zero] at e1; rw [hy24, List.getElem?_append_left (by omega)] at e1; exact e1.symm
      refine WS.op rfl (op_iaV2 j rfl rfl (by omega)) (WS.op rfl (op_ldN rfl (Row.lds (K := KSes) (M10.at 0 rfl) hy24)) ?_)
      refine WS.new M10 rfl ?_
      intro p11 h12 M13
      refine WS.st1 (M13.focus 0 rfl) [_, _, _, _, _] [_, _, _, _, _] rfl rfl rfl rfl rfl (Nat.le_of_ble_eq_true rfl) (Nat.le_of_ble_eq_true rfl) rfl rfl ?_
      intro h14 M15
      replace M15 : Mem _ _ ([(p11, _)] :: [(p, _)] :: L) _ := M15
      refine WS.nil [(0, _), (1, _), (5, _), (6, _), (7, _)] rfl ?_
      refine WC.seq ?_
      refine WC.run ?_
      refine WS.op rfl rfl (WS.op rfl (op_lds [_, _, _, _, _] (M15.at 0 rfl) rfl (Nat.le_of_ble_eq_true rfl) rfl) ?_)
      refine WS.call rfl rfl rfl (tick1_ran M15.here (y := y24)) ?_
      rintro _ h16 ⟨rfl, N17⟩
      have M18 := M15.trans N17
      cases hb1 : (!decide (Alive y24))
      ·
       refine WS.opV (.bool true) rfl rfl rfl (WS.nil [(0, _), (1, _), (5, _), (6, _), (7, _), (29, _)] rfl ?_)
       refine WC.condT rfl ?_
       refine WC.seq ?_
       refine WC.run ?_
       refine WS.op rfl rfl (WS.op rfl rfl (WS.op rfl (op_lds [_, _, _, _, _] (M18.at 0 rfl) rfl (Nat.le_of_ble_eq_true rfl) rfl) (WS.op rfl (op_iaV2 i rfl rfl (by omega)) ?_)))
       refine WS.stN (K := KSes) (y' := y24) (M18.focus 1 rfl) (show i < q.length by omega) rfl rfl rfl rfl rfl ?_
       intro h19 M20
       replace M20 : Mem _ _ ([(p, _)] :: [(p11, _)] :: L) _ := M20
       refine WS.nil [(0, _), (1, _), (5, _), (6, _)] rfl ?_
       refine WC.run ?_
       refine WS.op rfl rfl (WS.opV (.int .i64 (((i + 1) : Nat) : Int)) rfl rfl (add_i64 (a := i) (b := 1) (by omega)) (WS.op rfl rfl (WS.nil [(0, _), (1, _), (5, _), (6, _)] rfl ?_)))
       refine WC.run ?_
       refine WS.op rfl rfl (WS.opV (.int .i64 (((j + 1) : Nat) : Int)) rfl rfl (add_i64 (a := j) (b := 1) (by omega)) (WS.op rfl rfl (WS.nil [(0, _), (1, _), (5, _), (6, _)] rfl ?_)))
       refine ⟨((q.set i y24), (i + 1), j + 1), rfl, ⟨(M20.focus 1 rfl).drop, ?_⟩, ?_⟩
       · exact ⟨by rw [List.length_set]; exact hql, by omega, by omega, by rw [set_take (by omega), alive_step hyl, if_pos (by simpa using hb1), hT], by rw [set_drop (by omega), ← List.drop_drop, hD, List.drop_drop]⟩
       · simp only []; omega
      ·
       refine WS.opV (.bool false) rfl rfl rfl (WS.nil [(0, _), (1, _), (5, _), (6, _), (7, _), (29, _)] rfl ?_)
       refine WC.condF rfl ?_
       refine WC.skip ?_
       refine WC.run ?_
       refine WS.op rfl rfl (WS.opV (.int .i64 (((j + 1) : Nat) : Int)) rfl rfl (add_i64 (a := j) (b := 1) (by omega)) (WS.op rfl rfl (WS.nil [(0, _), (1, _), (5, _), (6, _)] rfl ?_)))
       refine ⟨(q, i, j + 1), rfl, ⟨(M18.focus 0 rfl).drop, ?_⟩, ?_⟩
       · exact ⟨hql, by omega, by omega, by rw [alive_step hyl, if_neg (by simpa using hb1), List.append_nil, hT], by rw [← List.drop_drop, hD, List.drop_drop]⟩
       · simp only []; omega
     ·
      refine WS.nil [(0, _), (1, _), (5, _), (6, _), (19, _)] rfl ?_
      refine WC.condF rfl ?_
      refine WC.exit ?_
      refine WC.seq ?_
      refine WC.run ?_
      refine WS.op rfl rfl (WS.op rfl rfl ?_)
      have hj : j = l.length := by omega
      have hsp : q = q.take i ++ (q.drop i).take (l.length - i) ++ q.drop l.length := by rw [← List.take_add, show i + (l.length - i) = l.length by omega, List.take_append_drop]
      have htk : (q.take i).length = i := by rw [List.length_take]; omega
      have hdk : ((q.drop i).take (l.length - i)).length = l.length - i := by rw [List.length_take, List.length_drop]; omega
      have M21 := M10
      rw [hsp] at M21
      replace M21 : Mem _ _ ([(p, _)] :: L) _ := M21
      have hcap : (2 * (l ++ jk).length) = 2 * ((q.take i ++ (q.drop i).take (l.length - i)) ++ q.drop l.length).length := by rw [← hsp, hql]
      have hnn : l.length = (q.take i ++ (q.drop i).take (l.length - i)).length := by rw [List.length_append]; omega
      refine WS.op rfl (op_slVG0 (K := KSes) (l := q.take i ++ (q.drop i).take (l.length - i)) (j := q.drop l.length) i rfl (M21.at 0 rfl) (by rw [← hcap, ← hnn]; rfl) rfl (by omega)) ?_
      refine WS.clrG (K := KSes) (u := q.take i) (w := (q.drop i).take (l.length - i)) (j := q.drop l.length) (y0 := ⟨0, 0, 0, 0, []⟩) M21 rfl rfl (by rw [htk, hdk]; show some _ = some _; congr 2; rw [← hnn]) ?_
      intro h22 M23
      replace M23 : Mem _ _ ([(p, _)] :: L) _ := M23
      refine WS.nil [(0, _), (5, _)] rfl ?_
      refine WC.seq ?_
      refine WC.run ?_
      refine WS.op rfl rfl (WS.op rfl rfl ?_)
      rw [hdk, List.append_assoc, hT] at M23
      rw [hj, List.take_of_length_le (Nat.le_refl _)] at M23 hT
      have hia : i = (alive l).length := by rw [← hT, htk]
      have hc2 : 2 * (l ++ jk).length = 2 * (alive l ++ (List.replicate (l.length - i) (⟨0, 0, 0, 0, []⟩ : Ses) ++ q.drop l.length)).length := by rw [← hql]; simp only [List.length_append, List.length_replicate, List.length_drop]; omega
      refine WS.opV (.slice (some ⟨p, 0, none⟩) i (2 * (l ++ jk).length)) rfl (op_slVX (m := (l ++ jk).length) i (by rw [List.length_append]; omega) rfl rfl (M23.at 0 rfl) rfl) rfl ?_
      refine WS.op rfl rfl (WS.nil [(4, _)] rfl ?_)
      refine WC.ret ?_
      refine ⟨[_], (res_tmp rfl res_nil), ?_⟩
      exact ⟨List.replicate (l.length - i) (⟨0, 0, 0, 0, []⟩ : Ses) ++ q.drop l.length, by rw [← hc2, ← hia]; rfl, M23⟩
theorem Del0_ran (W : Mem h h [] []) : Cll tab0 32 [.slice none 0 0, .func (.func 33) #[] #[]] h (fun v h2 => v = .slice none 0 0 ∧ Mem h h2 [] []) := by
  refine Cll.code rfl rfl ?_
  refine WC.env [(0, _), (1, _)] rfl ?_
  refine WC.seq ?_
  refine WC.run ?_
  refine WS.op rfl rfl (WS.nil [(0, _), (1, _)] rfl ?_)
  refine WC.seq ?_
  refine WC.run ?_
  refine WS.op rfl rfl (WS.op rfl rfl ?_)
  refine WS.call rfl rfl rfl (idxT_ran W.here (l := []) .nil (by simp)) ?_
  rintro _ h1 ⟨(⟨rfl, hall⟩ | ⟨j0, y0, rfl, hj0, hna, hbe⟩), N2⟩
  ·
   have M4 := W.trans N2
   refine WS.op rfl rfl (WS.nil [(0, _), (1, _), (5, _)] rfl ?_)
   refine WC.seq ?_
   refine WC.seq ?_
   refine WC.run ?_
   refine WS.op rfl rfl (WS.opV (.bool true) rfl rfl rfl (WS.nil [(0, _), (1, _), (5, _), (12, _)] rfl ?_))
   refine WC.condT rfl ?_
   refine WC.seq ?_
   refine WC.run ?_
   refine WS.op rfl rfl (WS.op rfl rfl (WS.nil [(4, _)] rfl ?_))
   refine WC.ret ?_
   refine ⟨[_], (res_tmp rfl res_nil), ?_⟩
   exact ⟨rfl, M4.bare.take 0⟩
  ·
   simp at hj0
theorem Len_ran {t : Nat} {T : Tab} {V : Value} {S : Seg} (O : KSes.Grow V T.l S) (M : Mem base h (S :: [(t, ⟨[V, .int .u64 ((T.la.toNat : Nat) : Int)], 0, false⟩)] :: L) []) : Cll tab0 17 [.pointer (some ⟨t, 0, none⟩)] h (fun v h2 => v = .int .i64 ((T.l.length : Nat) : Int) ∧ Mem base h2 (S :: [(t, ⟨[V, .int .u64 ((T.la.toNat : Nat) : Int)], 0, false⟩)] :: L) []) := by
  refine Cll.code rfl rfl ?_
  refine WC.env [(0, _)] rfl ?_
  refine WC.seq ?_
  refine WC.run ?_
  refine WS.op rfl rfl (WS.nil [(0, _)] rfl ?_)
  refine WC.seq ?_
  refine WC.seq ?_
  refine WC.run ?_
  refine WS.op rfl rfl (WS.opV (.bool false) rfl rfl rfl (WS.nil [(0, _), (4, _)] rfl ?_))
  refine WC.condF rfl ?_
  refine WC.skip ?_
  refine WC.seq ?_
  refine WC.run ?_
  refine WS.op rfl rfl (WS.op rfl rfl (WS.op rfl rfl (WS.op rfl (op_ld (M.at 1 rfl) rfl rfl) (WS.op rfl (op_lenVS (Row.Grow.sl O (Mem.owni M 0 rfl)) rfl) (WS.op rfl rfl (WS.nil [(2, _)] rfl ?_))))))
  refine WC.ret ?_
  refine ⟨[_], (res_tmp rfl res_nil), ?_⟩
  exact ⟨rfl, M⟩
theorem New_ran (W : Mem h h [] []) : Cll tab0 11 [] h (fun v h2 => ∃ p, v = .pointer (some ⟨p, 0, none⟩) ∧ Mem h h2 [[(p, ⟨[.slice none 0 0, .int .u64 (((0 : UInt64).toNat : Nat) : Int)], 0, false⟩)]] []) := by
  refine Cll.code rfl rfl ?_
  refine WC.env [] rfl ?_
  refine WC.seq ?_
  refine WC.run ?_
  refine WS.op rfl rfl (WS.nil [] rfl ?_)
  refine WC.seq ?_
  refine WC.run ?_
  refine WS.opV (.agg #[(.slice none 0 0), (.int .u64 (0 : Int))]) rfl rfl rfl ?_
  refine WS.box W [_, _] rfl rfl rfl rfl ?_
  intro p1 h2 M3
  refine WS.op rfl rfl (WS.nil [(0, _)] rfl ?_)
  refine WC.ret ?_
  refine ⟨[_], (res_tmp rfl res_nil), ?_⟩
  exact ⟨_, rfl, ((M3.bare.focus 0 rfl).take 1)⟩
theorem tick_app {l : List Ses} {i : Nat} {y : Ses} (hy : l[i]? = some y) : l.take (i + 1) = l.take i ++ [y] := by rw [List.take_add_one, hy]; rfl
set_option maxRecDepth 8000 in
theorem Tick_ran {t : Nat} {T : Tab} {V : Value} {S : Seg} (O : KSes.Grow V T.l S) (M : Mem base h (S :: [(t, ⟨[V, .int .u64 ((T.la.toNat : Nat) : Int)], 0, false⟩)] :: L) []) (hl : T.l.length ≤ 1000) : Cll tab0 16 [.pointer (some ⟨t, 0, none⟩)] h (fun v h2 => ∃ V2 S2, KSes.Grow V2 (tickT T).l S2 ∧ v = .tuple #[] ∧ Mem base h2 (S2 :: [(t, ⟨[V2, .int .u64 (((tickT T).la.toNat : Nat) : Int)], 0, false⟩)] :: L) []) := by
  obtain ⟨l, la⟩ := T
  simp only at O M hl
  obtain (⟨rfl, rfl, rfl⟩ | ⟨p, jk, rfl, rfl⟩) := O.cases'
  · skip
    refine Cll.code rfl rfl ?_
    refine WC.env [(0, _)] rfl ?_
    refine WC.seq ?_
    refine WC.seq ?_
    refine WC.run ?_
    refine WS.op rfl rfl (WS.opV (.bool false) rfl rfl rfl (WS.nil [(0, _), (4, _)] rfl ?_))
    refine WC.condF rfl ?_
    refine WC.skip ?_
    refine WC.seq ?_
    refine WC.seq ?_
    refine WC.run ?_
    refine WS.op rfl rfl (WS.op rfl rfl (WS.op rfl rfl (WS.op rfl (op_ld (M.at 1 rfl) rfl rfl) (WS.op rfl rfl (WS.op rfl rfl (WS.nil [(0, _), (9, _), (10, _)] rfl ?_))))))
    refine WC.block ?_
    refine WC.unroll [(0, _), (9, _), (10, _)] rfl ?_
    refine WC.seq ?_
    refine WC.run ?_
    refine WS.opV (.bool false) rfl rfl rfl (WS.nil [(0, _), (9, _), (10, _), (11, _)] rfl ?_)
    refine WC.seq ?_
    refine WC.condF rfl ?_
    refine WC.exit ?_
    refine WC.run ?_
    refine WS.op rfl rfl (WS.op rfl rfl (WS.op rfl rfl (WS.op rfl rfl (WS.op rfl (op_ld (M.at 1 rfl) rfl rfl) ?_))))
    refine WS.call rfl rfl rfl (Del0_ran M.here) ?_
    rintro _ h1 ⟨rfl, N2⟩
    have M3 := M.trans N2
    refine WS.op rfl rfl (WS.op rfl rfl ?_)
    refine WS.st1 (M3.focus 1 rfl) [_] [_, _] rfl rfl rfl rfl rfl (Nat.le_of_ble_eq_true rfl) (Nat.le_of_ble_eq_true rfl) rfl rfl ?_
    intro h4 M5
    replace M5 : Mem _ _ ([(t, _)] :: [] :: L) _ := M5
    refine WS.nil [] rfl ?_
    refine ⟨[], res_nil, ?_⟩
    exact ⟨.slice none 0 0, [], .nil, rfl, ((M5.focus 0 rfl).focus 1 rfl)⟩
  · replace M : Mem base h ([(p, ⟨KSes.flat (l ++ jk), 5, false⟩)] :: [(t, ⟨[.slice (some ⟨p, 0, none⟩) l.length (2 * (l ++ jk).length), .int .u64 ((la.toNat : Nat) : Int)], 0, false⟩)] :: L) [] := M
    refine Cll.code rfl rfl ?_
    refine WC.env [(0, _)] rfl ?_
    refine WC.seq ?_
    refine WC.seq ?_
    refine WC.run ?_
    refine WS.op rfl rfl (WS.opV (.bool false) rfl rfl rfl (WS.nil [(0, _), (4, _)] rfl ?_))
    refine WC.condF rfl ?_
    refine WC.skip ?_
    refine WC.seq ?_
    refine WC.seq ?_
    refine WC.run ?_
    refine WS.op rfl rfl (WS.op rfl rfl (WS.op rfl rfl (WS.op rfl (op_ld (M.at 1 rfl) rfl rfl) (WS.op rfl rfl (WS.op rfl rfl (WS.nil [(0, _), (9, _), (10, _)] rfl ?_))))))
    refine WC.block ?_
    obtain ⟨L1, eL3, M2⟩ := Mem.name1 (M.bare.focus 0 rfl)
    refine WC.loop (σ := Nat) (fun (i) => [(0, (.pointer (some ⟨t, 0, none⟩))), (9, (.int .i64 ((l.length : Nat) : Int))), (10, (.int .i64 ((i : Nat) : Int)))]) (fun (i) hh => Mem base hh ([(p, ⟨KSes.flat ((l.take i).map dec1 ++ (l.drop i ++ jk)), 5, false⟩)] :: L1) [] ∧ i ≤ l.length) (fun (i) => l.length - i) (0) rfl ⟨(by (simpa using M2)), ?_⟩ ?_
    · omega
    ·rintro i h4 ⟨M5, hil⟩
     replace eL3 := eL3.symm; subst eL3
     refine WC.env [(0, _), (9, _), (10, _)] rfl ?_
     have hqt : ((l.take i).map dec1).length = i := by rw [List.length_map, List.length_take]; omega
     refine WC.seq ?_
     refine WC.run ?_
     refine WS.lssN (a := i) (b := l.length) rfl rfl rfl (fun e11 => ?_) (fun e11 => ?_)
     ·
      refine WS.nil [(0, _), (9, _), (10, _), (11, _)] rfl ?_
      refine WC.seq ?_
      refine WC.condT rfl ?_
      refine WC.skip ?_
      refine WC.seq ?_
      refine WC.block ?_
      refine WC.seq ?_
      refine WC.run ?_
      refine WS.op rfl rfl (WS.op rfl rfl (WS.nil [(0, _), (2, _), (9, _), (10, _)] rfl ?_))
      refine WC.run ?_
      refine WS.op rfl rfl (WS.op rfl rfl (WS.op rfl rfl (WS.op rfl (op_ld (M5.at 1 rfl) rfl rfl) (WS.op rfl rfl ?_))))
      obtain ⟨y18, hy18⟩ : ∃ y, (((l.take i).map dec1 ++ (l.drop i ++ jk)))[i]? = some y := ⟨_, List.getElem?_eq_getElem (show i < (((l.take i).map dec1 ++ (l.drop i ++ jk))).length by first | omega | (simp only [List.length_append, List.length_map, List.length_take, List.length_drop]; omega))⟩
      have hyl : l[i]? = some y18 := by rw [List.getElem?_append_right (by omega), hqt, Nat.sub_self, List.getElem?_append_left (by rw [List.length_drop]; omega), List.getElem?_drop, Nat.add_zero] at hy18; exact hy18
      have hset : ((l.take i).map dec1 ++ (l.drop i ++ jk)).set i { y18 with lf := y18.lf - 1 } = ((l.take (i + 1)).map dec1 ++ (l.drop (i + 1) ++ jk)) := by rw [tick_app hyl, List.set_append_right _ _ (by omega), hqt, Nat.sub_self, List.map_append, List.drop_eq_getElem_cons (show i < l.length by omega), show l[i]'(by omega) = y18 from (List.getElem?_eq_some_iff.1 hyl).2]; simp [dec1]
      refine WS.op rfl (op_iaV2 i rfl rfl (by first | omega | (simp only [List.length_append, List.length_map, List.length_take, List.length_drop]; omega))) (WS.op rfl rfl (WS.op rfl (op_ldH rfl (Row.ld (K := KSes) (k := 2) (M5.at 0 rfl) hy18 rfl)) (WS.opV (.int .u64 (((y18.lf - 1).toNat : Nat) : Int)) rfl rfl (sub1_u64 (x := y18.lf)) (WS.op rfl (op_iaV2 i rfl rfl (by omega)) (WS.op rfl rfl ?_)))))
      refine WS.stE (K := KSes) (y' := { y18 with lf := (y18.lf - 1) }) (M5.focus 0 rfl) hy18 (by decide) rfl rfl rfl rfl rfl rfl ?_
      intro h6 M7
      replace M7 : Mem _ _ ([(p, _)] :: [(t, _)] :: L) _ := M7
      have hye8 : (((l.take i).map dec1 ++ (l.drop i ++ jk)).set i { y18 with lf := (y18.lf - 1) })[i]? = some ({ y18 with lf := (y18.lf - 1) } : Ses) := List.getElem?_set_self (List.getElem?_eq_some_iff.1 hy18).1
      refine WS.nil [(0, _), (9, _), (10, _)] rfl ?_
      refine WC.run ?_
      refine WS.opV (.int .i64 (((i + 1) : Nat) : Int)) rfl rfl (add_i64 (a := i) (b := 1) (by omega)) (WS.op rfl rfl (WS.nil [(0, _), (9, _), (10, _)] rfl ?_))
      refine ⟨i + 1, rfl, ⟨(by have q := M7; rw [hset] at q; exact q), ?_⟩, ?_⟩
      · omega
      · simp only []; omega
     ·
      refine WS.nil [(0, _), (9, _), (10, _), (11, _)] rfl ?_
      refine WC.seq ?_
      refine WC.condF rfl ?_
      refine WC.exit ?_
      refine WC.run ?_
      refine WS.op rfl rfl (WS.op rfl rfl (WS.op rfl rfl (WS.op rfl rfl (WS.op rfl (op_ld (M5.at 1 rfl) rfl rfl) ?_))))
      have hil2 : i = l.length := by omega
      have M11 := (M5.focus 0 rfl)
      rw [hil2, List.take_of_length_le (Nat.le_refl _), List.drop_of_length_le (Nat.le_refl _), List.nil_append] at M11
      have hdl := Del_ran (l := l.map dec1) (jk := jk) M11 (by rw [List.length_map]; omega)
      rw [List.length_map, show (l.map dec1 ++ jk).length = (l ++ jk).length by simp] at hdl
      refine WS.call rfl rfl rfl hdl ?_
      rintro _ h9 ⟨j2, rfl, M10⟩
      replace M10 : Mem _ _ ([(p, _)] :: [(t, _)] :: L) _ := M10
      refine WS.op rfl rfl (WS.op rfl rfl ?_)
      refine WS.st1 (M10.focus 1 rfl) [_] [_, _] rfl rfl rfl rfl rfl (Nat.le_of_ble_eq_true rfl) (Nat.le_of_ble_eq_true rfl) rfl rfl ?_
      intro h12 M13
      replace M13 : Mem _ _ ([(t, _)] :: [(p, _)] :: L) _ := M13
      refine WS.nil [] rfl ?_
      refine ⟨[], res_nil, ?_⟩
      exact ⟨_, _, Row.Grow.row p (alive (l.map dec1)) j2, rfl, ((M13.focus 0 rfl).focus 1 rfl)⟩
end Go.Proofs.Ytomaijljeacpjaa.Wt
namespace Go.Proofs.Ytomaijljeacpjaa.Wt
open Go Go.Proofs.Ytomaijljeacpjaa.Am Go.Proofs.Ytomaijljeacpjaa.IrAll
set_option linter.unusedVariables false
set_option linter.unusedSimpArgs false
theorem opens_42 : OpensL Try.prog 42 (laySl layU8 1) 1 (fun l => l.length < 9223372036854775808 ∧ ∀ x ∈ l, (fun _ => True) x) := OpensL.slice Try.underlying42 (by kernel_rfl) (by decide) opens_5
variable {h base : H} {L : List Seg} {R : List Nat}
theorem awake18_ran (W : Mem h h [] []) : Cll tab0 10 [] h (fun v h2 => v = .bool true ∧ Mem h h2 [] []) := ⟨_, h, awake_run h, rfl, W⟩
def one (tu : UInt64) (n : Nat) : Tab := ⟨if n < tu.toNat then [⟨1, tu, UInt64.ofNat (tu.toNat - n), 0, []⟩] else [], 1⟩
theorem open_one {tu : UInt64} (h : 1 ≤ tu.toNat) : openT (⟨[], 0⟩ : Tab) tu = (one tu 0, 1, 0) := by
  unfold openT one
  rw [if_neg (by omega), if_neg (by simp), if_pos (by omega)]
  simp
theorem tick_one {tu : UInt64} {n : Nat} (h : tu.toNat ≤ 200) : tickT (one tu n) = one tu (n + 1) := by
  unfold tickT one
  by_cases c : n < tu.toNat
  · simp only [if_pos c, List.map_cons, List.map_nil, dec1]
    have e : (UInt64.ofNat (tu.toNat - n) - 1).toNat = tu.toNat - (n + 1) := by
      rw [UInt64.toNat_sub, n64 (by omega)]
      show (2 ^ 64 - 1 + (tu.toNat - n)) % 2 ^ 64 = _
      omega
    have e2 : UInt64.ofNat (tu.toNat - n) - 1 = UInt64.ofNat (tu.toNat - (n + 1)) := by
      apply UInt64.toNat_inj.1
      rw [e, n64 (by omega)]
    by_cases c2 : n + 1 < tu.toNat
    · rw [if_pos c2, alive_all (fun y hy => by rw [List.mem_singleton] at hy; subst hy; unfold Alive; simp only; rw [e]; omega), e2]
    · rw [if_neg c2]
      have : alive [({ id := 1, tt := tu, lf := UInt64.ofNat (tu.toNat - n) - 1, sq := 0, kp := [] } : Ses)] = [] := by
        have hn : ¬ Alive ({ id := 1, tt := tu, lf := UInt64.ofNat (tu.toNat - n) - 1, sq := 0, kp := [] } : Ses) := by
          unfold Alive; simp only; omega
        unfold alive
        rw [List.filter_cons_of_neg (by rw [decide_eq_false hn]; decide)]; rfl
      rw [this]
  · rw [if_neg c, if_neg (by omega)]; rfl
theorem one_len {tu : UInt64} {n : Nat} : (one tu n).l.length = if n < tu.toNat then 1 else 0 := by
  unfold one; split <;> rfl
theorem one_kp {tu : UInt64} {n : Nat} : ∀ y ∈ (one tu n).l, y.kp.length ≤ 299000 := by
  intro y hy
  unfold one at hy
  split at hy
  · rw [List.mem_singleton] at hy; subst hy; simp
  · simp at hy
theorem look_one {tu : UInt64} {n : Nat} {T2 : Tab} {r : Res} {ag : Bool} {cd : UInt8} (hL : (NoId (one tu n).l 1 ∧ T2 = one tu n ∧ r = zeroR ∧ ag = false ∧ cd = 5) ∨ (∃ j y, IsAt (one tu n).l 1 j y ∧ T2 = SetG (one tu n) j { y with lf := y.tt } ∧ (((1 : UInt64).toNat = 0 ∨ (1 : UInt64).toNat < y.sq.toNat) → r = zeroR ∧ ag = false ∧ cd = 6) ∧ (¬ ((1 : UInt64).toNat = 0 ∨ (1 : UInt64).toNat < y.sq.toNat) → 1 = y.sq → ag = true ∧ cd = 0 ∧ ∃ ok, RdR y.kp r ok) ∧ (¬ ((1 : UInt64).toNat = 0 ∨ (1 : UInt64).toNat < y.sq.toNat) → 1 ≠ y.sq → r = zeroR ∧ ag = false ∧ cd = 0))) :
    (n < tu.toNat → cd = 0 ∧ T2 = one tu 0) ∧ (¬ n < tu.toNat → cd = 5) := by
  rcases hL with ⟨h1, h2, h3, h4, h5⟩ | ⟨j, y, ⟨h1, h2, h3⟩, h4, h5, h6, h7⟩
  · refine ⟨fun c => ?_, fun _ => h5⟩
    exact absurd rfl (h1 ⟨1, tu, UInt64.ofNat (tu.toNat - n), 0, []⟩ (by unfold one; rw [if_pos c]; simp))
  · by_cases c : n < tu.toNat
    · refine ⟨fun _ => ?_, fun q => absurd c q⟩
      unfold one at h1
      rw [if_pos c] at h1
      have hj : j = 0 := by
        have := (List.getElem?_eq_some_iff.1 h1).1
        simp at this; omega
      subst hj
      have hy : y = ⟨1, tu, UInt64.ofNat (tu.toNat - n), 0, []⟩ := by simpa using h1.symm
      subst hy
      obtain ⟨_, _, e⟩ := h7 (by show ¬ (1 = 0 ∨ 1 < 0); omega) (by show (1 : UInt64) ≠ 0; decide)
      refine ⟨e, ?_⟩
      rw [h4]
      unfold SetG one
      simp only [if_pos c, if_pos (show 0 < tu.toNat by omega), List.set_cons_zero, Nat.sub_zero]
      congr 3
      apply UInt64.toNat_inj.1
      rw [n64 tu.toNat_lt]
    · exfalso
      unfold one at h1
      rw [if_neg c] at h1
      simp at h1
theorem of_take {ws : List UInt8} {w : Nat} {a b : UInt8} (h1 : ws[w]? = some a) (h2 : ws[w]? = some b) : a = b := by rw [h1] at h2; exact Option.some.inj h2
set_option maxRecDepth 8000 in
theorem law_SessLeft (W : Mem h h [] []) {tl : UInt8} {ws : List UInt8} {u0 u1 : Value} (l0 : layU8 h tl [u0]) (l1 : laySl layU8 1 h ws [u1]) (k0 : True) (k1 : ws.length < 9223372036854775808 ∧ ∀ x ∈ ws, True) : Cll tab0 4 [u0, u1] h (fun v _ => v = .bool true) := by
  have l0 : [u0] = [_] := l0
  cases l0
  obtain ⟨V1, e1, S1⟩ := l1
  cases e1
  have A2 : KU8.Sl h u1 ws := SlL.sl (K := KU8) S1
  obtain ⟨Pt, nt, rfl⟩ := A2.shape
  obtain ⟨tu, htu⟩ : ∃ tu : UInt64, tu.toNat = tl.toNat := ⟨UInt64.ofNat tl.toNat, n64 (by have := tl.toNat_lt; omega)⟩
  have htl := tl.toNat_lt
  refine Cll.code rfl rfl ?_
  refine WC.env [(0, _), (1, _)] rfl ?_
  refine WC.seq ?_
  refine WC.run ?_
  refine WS.op rfl rfl (WS.nil [(0, _), (1, _)] rfl ?_)
  refine WC.seq ?_
  refine WC.seq ?_
  obtain ⟨L1, eL3, M2⟩ := Mem.name W.bare
  refine WC.joinB (base := h) (fun b => [(0, (.int .u8 (((tl).toNat : Nat) : Int))), (1, (.slice Pt ws.length nt)), (20, .bool b)]) L1 (True) ((1 ≤ tl.toNat ∧ tl.toNat ≤ 200) ∧ ws.length ≤ 20) ?_ ?_ ?_
  ·replace eL3 := eL3.symm; subst eL3
   refine WS.op rfl rfl ?_
   refine WS.lssN (a := (tl).toNat) (b := 1) rfl rfl rfl (fun e11 => ?_) (fun e11 => ?_)
   ·
    refine WS.op rfl rfl (WS.off rfl (WS.off rfl (WS.op rfl rfl (WS.op rfl rfl (WS.off rfl (WS.off rfl (WS.off rfl (WS.op rfl rfl ?_))))))))
    refine WS.nil' ⟨true, rfl, (M2.bare.take 0), fun _ => ?_, fun hh => ?_⟩
    · trivial
    · cases hh
   ·
    refine WS.op rfl rfl (WS.op rfl rfl ?_)
    refine WS.gtrN (a := (tl).toNat) (b := 200) rfl rfl rfl (fun e14 => ?_) (fun e14 => ?_)
    ·
     refine WS.op rfl rfl (WS.op rfl rfl (WS.off rfl (WS.off rfl (WS.off rfl (WS.op rfl rfl ?_)))))
     refine WS.nil' ⟨true, rfl, (M2.bare.take 0), fun _ => ?_, fun hh => ?_⟩
     · trivial
     · cases hh
    ·
     refine WS.op rfl rfl (WS.op rfl rfl (WS.op rfl rfl (WS.op rfl (op_lenVS A2 rfl) ?_)))
     refine WS.gtrN (a := (ws).length) (b := 20) rfl rfl rfl (fun e19 => ?_) (fun e19 => ?_)
     ·
      refine WS.op rfl rfl ?_
      refine WS.nil' ⟨true, rfl, (M2.bare.take 0), fun _ => ?_, fun hh => ?_⟩
      · trivial
      · cases hh
     ·
      refine WS.op rfl rfl ?_
      refine WS.nil' ⟨false, rfl, (M2.bare.take 0), fun hh => ?_, fun _ => ?_⟩
      · cases hh
      · omega
  ·intro h4 M5 hp20
   replace eL3 := eL3.symm; subst eL3
   refine WC.condT rfl ?_
   refine WC.seq ?_
   refine WC.run ?_
   refine WS.call rfl rfl rfl (awake18_ran M5.here ) ?_
   rintro _ h6 ⟨rfl, N7⟩
   have M8 := M5.trans N7
   refine WS.op rfl rfl (WS.nil [(4, _)] rfl ?_)
   refine WC.ret ?_
   refine ⟨[_], (res_tmp rfl res_nil), ?_⟩
   rfl
  ·intro h9 M10 hp20
   replace eL3 := eL3.symm; subst eL3
   refine WC.condF rfl ?_
   refine WC.skip ?_
   refine WC.seq ?_
   refine WC.run ?_
   refine WS.call rfl rfl rfl (New_ran M10.here) ?_
   rintro _ h11 ⟨p13, rfl, N14⟩
   have M12 := (M10.trans N14)
   replace M12 : Mem _ _ ([] :: [(p13, _)] :: []) _ := (M12).nils
   refine WS.op rfl rfl (WS.nil [(0, _), (1, _), (5, _)] rfl ?_)
   refine WC.seq ?_
   refine WC.run ?_
   refine WS.op rfl rfl (WS.op rfl rfl (WS.opV (.int .u64 ((tu.toNat : Nat) : Int)) rfl rfl (by rw [htu]; exact cv_u64 (n := tl.toNat) (by omega)) ?_))
   refine WS.call rfl rfl rfl (Open_ran (T := (⟨[], 0⟩ : Tab)) (ttl := tu) (Row.Grow.nil (K := KSes)) ((M12.focus 1 rfl).focus 1 rfl) (by first | (simp; done) | (rw [one_len]; split <;> omega))) ?_
   rintro _ h15 ⟨V17, S18, O19, rfl, M16⟩
   replace M16 : Mem _ _ (S18 :: [(p13, _)] :: []) _ := M16
   have hop := open_one (tu := tu) (by omega)
   rw [hop] at O19 M16 ⊢
   refine WS.op rfl rfl (WS.op rfl rfl (WS.op rfl rfl (WS.op rfl rfl (WS.op rfl rfl (WS.nil [(0, _), (1, _), (5, _), (6, _), (7, _)] rfl ?_)))))
   refine WC.seq ?_
   refine WC.seq ?_
   refine WC.run ?_
   refine WS.op rfl rfl (WS.opV (.bool false) rfl rfl rfl (WS.nil [(0, _), (1, _), (5, _), (6, _), (31, _)] rfl ?_))
   refine WC.condF rfl ?_
   refine WC.skip ?_
   refine WC.seq ?_
   refine WC.seq ?_
   refine WC.run ?_
   refine WS.op rfl rfl (WS.nil [(0, _), (1, _), (5, _), (6, _), (8, _)] rfl ?_)
   refine WC.block ?_
   obtain ⟨L20, eL22, M21⟩ := Mem.name2 ((M16.bare.focus 1 rfl).focus 1 rfl)
   refine WC.loop (σ := Value × Seg × Nat) (fun ((V_, S_, w)) => [(0, (.int .u8 (((tl).toNat : Nat) : Int))), (1, (.slice Pt ws.length nt)), (5, (.pointer (some ⟨p13, 0, none⟩))), (6, (.int .u64 (1 : Int))), (8, (.int .i64 ((w : Nat) : Int)))]) (fun ((V_, S_, w)) hh => Mem h hh (S_ :: [(p13, ⟨[V_, (.int .u64 ((((one tu 0).la).toNat : Nat) : Int))], 0, false⟩)] :: L20) [] ∧ KSes.Grow V_ (one tu 0).l S_ ∧ w ≤ ws.length) (fun ((V_, S_, w)) => ws.length - w) (V17, S18, 0) rfl ⟨(by exact M21), ?_⟩ ?_
   · exact ⟨by assumption, by omega⟩
   ·rintro ⟨V_, S_, w⟩ h23 ⟨M24, ⟨hO, hw⟩⟩
    replace eL22 := eL22.symm; subst eL22
    refine WC.env [(0, _), (1, _), (5, _), (6, _), (8, _)] rfl ?_
    refine WC.seq ?_
    refine WC.seq ?_
    refine WC.run ?_
    refine WS.op rfl rfl (WS.op rfl rfl (WS.op rfl (op_lenVS A2 rfl) ?_))
    refine WS.lssN (a := w) (b := (ws).length) rfl rfl rfl (fun e35 => ?_) (fun e35 => ?_)
    ·
     refine WS.nil [(0, _), (1, _), (5, _), (6, _), (8, _), (35, _)] rfl ?_
     refine WC.condT rfl ?_
     refine WC.skip ?_
     refine WC.seq ?_
     refine WC.block ?_
     refine WC.seq ?_
     refine WC.seq ?_
     refine WC.run ?_
     refine WS.op rfl rfl (WS.nil [(0, _), (1, _), (5, _), (6, _), (8, _), (9, _)] rfl ?_)
     refine WC.block ?_
     obtain ⟨L25, eL27, M26⟩ := Mem.name2 ((M24.bare.focus 1 rfl).focus 1 rfl)
     refine WC.loop (σ := Value × Seg × Nat) (fun ((V2_, S2_, k)) => [(0, (.int .u8 (((tl).toNat : Nat) : Int))), (1, (.slice Pt ws.length nt)), (5, (.pointer (some ⟨p13, 0, none⟩))), (6, (.int .u64 (1 : Int))), (8, (.int .i64 ((w : Nat) : Int))), (9, (.int .i64 ((k : Nat) : Int)))]) (fun ((V2_, S2_, k)) hh => Mem h hh (S2_ :: [(p13, ⟨[V2_, (.int .u64 ((((one tu k).la).toNat : Nat) : Int))], 0, false⟩)] :: L25) [] ∧ KSes.Grow V2_ (one tu k).l S2_ ∧ (∀ y, ws[w]? = some y → k ≤ y.toNat)) (fun ((V2_, S2_, k)) => 256 - k) (V_, S_, 0) rfl ⟨(by exact M26), ?_⟩ ?_
     · exact ⟨hO, fun y _ => Nat.zero_le _⟩
     ·rintro ⟨V2_, S2_, k⟩ h28 ⟨M29, ⟨hO2, hK⟩⟩
      replace eL27 := eL27.symm; subst eL27
      refine WC.env [(0, _), (1, _), (5, _), (6, _), (8, _), (9, _)] rfl ?_
      refine WC.seq ?_
      refine WC.seq ?_
      refine WC.run ?_
      refine WS.op rfl rfl (WS.op rfl rfl (WS.op rfl rfl ?_))
      obtain ⟨y41, hy41⟩ : ∃ y, (ws)[w]? = some y := ⟨_, List.getElem?_eq_getElem (show w < (ws).length by first | omega | (simp only [List.length_drop, List.length_take, List.length_append, List.length_cons, List.length_nil, List.length_singleton]; omega) | (simp only [List.length_drop, List.length_take, List.length_append, List.length_cons, List.length_nil, List.length_singleton] at *; omega))⟩
      refine WS.iaVS A2 w hy41 rfl rfl rfl rfl ?_
      intro b41_ o41_ ha41
      refine WS.op rfl (op_ldH rfl (At.ld0 (ha41.mono M29.sub) rfl)) (WS.opV (.int .i64 (((y41).toNat : Nat) : Int)) rfl rfl (cv_i64 (n := (y41).toNat) (by have := UInt8.toNat_lt (y41); omega)) ?_)
      refine WS.lssN (a := k) (b := (y41).toNat) rfl rfl rfl (fun e44 => ?_) (fun e44 => ?_)
      ·
       refine WS.nil [(0, _), (1, _), (5, _), (6, _), (8, _), (9, _), (44, _)] rfl ?_
       refine WC.condT rfl ?_
       refine WC.skip ?_
       refine WC.seq ?_
       refine WC.block ?_
       refine WC.seq ?_
       refine WC.run ?_
       refine WS.op rfl rfl ?_
       refine WS.call rfl rfl rfl (Tick_ran (T := (one tu k))  hO2 ((M29.focus 1 rfl).focus 1 rfl) (by first | (simp; done) | (rw [one_len]; split <;> omega))) ?_
       rintro _ h30 ⟨V32, S33, O34, rfl, M31⟩
       replace M31 : Mem _ _ (S33 :: [(p13, _)] :: []) _ := M31
       refine WS.nil [(0, _), (1, _), (5, _), (6, _), (8, _), (9, _)] rfl ?_
       refine WC.seq ?_
       refine WC.run ?_
       have htk := tick_one (tu := tu) (n := k) (by omega)
       have hln : (tickT (one tu k)).l.length = if k + 1 < tu.toNat then 1 else 0 := by rw [htk]; exact one_len
       refine WS.op rfl rfl ?_
       refine WS.call rfl rfl rfl (Len_ran (T := (tickT (one tu k))) O34 ((M31.focus 1 rfl).focus 1 rfl)) ?_
       rintro _ h35 ⟨rfl, M36⟩
       replace M36 : Mem _ _ (S33 :: [(p13, _)] :: []) _ := M36
       refine WS.eqlN (a := (tickT (one tu k)).l.length) (b := 1) rfl rfl rfl (fun e51 => ?_) (fun e51 => ?_)
       ·
        refine WS.op rfl rfl (WS.opV (.int .i64 (((k + 1) : Nat) : Int)) rfl rfl (add_i64 (a := k) (b := 1) (by have := y41.toNat_lt; omega)) (WS.op rfl rfl (WS.opV (.int .i64 (((tl).toNat : Nat) : Int)) rfl rfl (cv_i64 (n := (tl).toNat) (by have := UInt8.toNat_lt (tl); omega)) ?_)))
        refine WS.lssN (a := (k + 1)) (b := (tl).toNat) rfl rfl rfl (fun e56 => ?_) (fun e56 => ?_)
        ·
         refine WS.opV (.bool false) rfl rfl rfl (WS.nil [(0, _), (1, _), (5, _), (6, _), (8, _), (9, _), (57, _)] rfl ?_)
         refine WC.condF rfl ?_
         refine WC.skip ?_
         refine WC.run ?_
         refine WS.op rfl rfl (WS.opV (.int .i64 (((k + 1) : Nat) : Int)) rfl rfl (add_i64 (a := k) (b := 1) (by have := y41.toNat_lt; omega)) (WS.op rfl rfl (WS.nil [(0, _), (1, _), (5, _), (6, _), (8, _), (9, _)] rfl ?_)))
         refine ⟨(V32, S33, k + 1), rfl, ⟨(by have q := (((M36.bare.focus 1 rfl).focus 1 rfl).take 2); rw [htk] at q; exact q), ?_⟩, ?_⟩
         · exact ⟨by rw [← htk]; exact O34, fun y hy => by have := of_take hy41 hy; subst this; omega⟩
         · have := y41.toNat_lt; simp only []; omega
        ·
         refine WS.opV (.bool true) rfl rfl rfl (WS.nil [(0, _), (1, _), (5, _), (6, _), (8, _), (9, _), (57, _)] rfl ?_)
         refine WC.condT rfl ?_
         refine WC.seq ?_
         refine WC.run ?_
         refine WS.op rfl rfl (WS.nil [(4, _)] rfl ?_)
         refine WC.ret ?_
         refine ⟨[_], (res_tmp rfl res_nil), ?_⟩
         exfalso
         first
         | (rw [hln] at e51; split at e51 <;> omega)
         | (have hyy := of_take hy41 hy69
            subst hyy
            by_cases q : k < tu.toNat
            · have := (hlk.1 q).1; rw [this] at e66; first | exact absurd rfl e66 | omega
            · have := hlk.2 q; rw [this] at e66; first | (simp at e66; done) | omega)
         | (have hyy := of_take hy41 hy69
            subst hyy
            by_cases q : k < tu.toNat
            · have := (hlk.1 q).1; rw [this] at e75; exact absurd rfl e75
            · have := hlk.2 q; rw [this] at e77; exact absurd rfl e77)
       ·
        refine WS.op rfl rfl (WS.opV (.int .i64 (((k + 1) : Nat) : Int)) rfl rfl (add_i64 (a := k) (b := 1) (by have := y41.toNat_lt; omega)) (WS.op rfl rfl (WS.opV (.int .i64 (((tl).toNat : Nat) : Int)) rfl rfl (cv_i64 (n := (tl).toNat) (by have := UInt8.toNat_lt (tl); omega)) ?_)))
        refine WS.lssN (a := (k + 1)) (b := (tl).toNat) rfl rfl rfl (fun e56 => ?_) (fun e56 => ?_)
        ·
         refine WS.opV (.bool true) rfl rfl rfl (WS.nil [(0, _), (1, _), (5, _), (6, _), (8, _), (9, _), (57, _)] rfl ?_)
         refine WC.condT rfl ?_
         refine WC.seq ?_
         refine WC.run ?_
         refine WS.op rfl rfl (WS.nil [(4, _)] rfl ?_)
         refine WC.ret ?_
         refine ⟨[_], (res_tmp rfl res_nil), ?_⟩
         exfalso
         first
         | (rw [hln] at e51; split at e51 <;> omega)
         | (have hyy := of_take hy41 hy69
            subst hyy
            by_cases q : k < tu.toNat
            · have := (hlk.1 q).1; rw [this] at e66; first | exact absurd rfl e66 | omega
            · have := hlk.2 q; rw [this] at e66; first | (simp at e66; done) | omega)
         | (have hyy := of_take hy41 hy69
            subst hyy
            by_cases q : k < tu.toNat
            · have := (hlk.1 q).1; rw [this] at e75; exact absurd rfl e75
            · have := hlk.2 q; rw [this] at e77; exact absurd rfl e77)
        ·
         refine WS.opV (.bool false) rfl rfl rfl (WS.nil [(0, _), (1, _), (5, _), (6, _), (8, _), (9, _), (57, _)] rfl ?_)
         refine WC.condF rfl ?_
         refine WC.skip ?_
         refine WC.run ?_
         refine WS.op rfl rfl (WS.opV (.int .i64 (((k + 1) : Nat) : Int)) rfl rfl (add_i64 (a := k) (b := 1) (by have := y41.toNat_lt; omega)) (WS.op rfl rfl (WS.nil [(0, _), (1, _), (5, _), (6, _), (8, _), (9, _)] rfl ?_)))
         refine ⟨(V32, S33, k + 1), rfl, ⟨(by have q := (((M36.bare.focus 1 rfl).focus 1 rfl).take 2); rw [htk] at q; exact q), ?_⟩, ?_⟩
         · exact ⟨by rw [← htk]; exact O34, fun y hy => by have := of_take hy41 hy; subst this; omega⟩
         · have := y41.toNat_lt; simp only []; omega
      ·
       refine WS.nil [(0, _), (1, _), (5, _), (6, _), (8, _), (9, _), (44, _)] rfl ?_
       refine WC.condF rfl ?_
       refine WC.exit ?_
       refine WC.seq ?_
       refine WC.run ?_
       refine WS.op rfl rfl (WS.op rfl rfl ?_)
       refine WS.call rfl rfl rfl (Look_ran (T := (one tu k)) (i := 1) (sq := 1) hO2 ((M29.focus 1 rfl).focus 1 rfl) (by first | (simp; done) | (rw [one_len]; split <;> omega)) (by exact one_kp)) ?_
       rintro _ h37 ⟨V39, S40, T61, r61, V42, S43, ag61, cd61, O41, O44, rfl, hF61, hL61, M38⟩
       obtain ⟨P45, rfl⟩ := O44.shape
       replace M38 : Mem _ _ (S40 :: S43 :: [(p13, _)] :: []) _ := M38
       refine WS.op rfl rfl (WS.op rfl rfl (WS.op rfl rfl (WS.op rfl rfl (WS.op rfl rfl (WS.nil [(0, _), (1, _), (5, _), (6, _), (7, _), (8, _)] rfl ?_)))))
       refine WC.seq ?_
       refine WC.seq ?_
       refine WC.run ?_
       have hlk := look_one hL61
       have hky := hK _ hy41
       refine WS.op rfl rfl ?_
       refine WS.eqlN (a := (cd61).toNat) (b := 0) rfl rfl rfl (fun e66 => ?_) (fun e66 => ?_)
       ·
        refine WS.op rfl rfl (WS.op rfl rfl ?_)
        obtain ⟨y69, hy69⟩ : ∃ y, (ws)[w]? = some y := ⟨_, List.getElem?_eq_getElem (show w < (ws).length by first | omega | (simp only [List.length_drop, List.length_take, List.length_append, List.length_cons, List.length_nil, List.length_singleton]; omega) | (simp only [List.length_drop, List.length_take, List.length_append, List.length_cons, List.length_nil, List.length_singleton] at *; omega))⟩
        refine WS.iaVS A2 w hy69 rfl rfl rfl rfl ?_
        intro b69_ o69_ ha69
        refine WS.op rfl (op_ldH rfl (At.ld0 (ha69.mono M38.sub) rfl)) (WS.op rfl rfl ?_)
        refine WS.lssN (a := (y69).toNat) (b := (tl).toNat) rfl rfl rfl (fun e72 => ?_) (fun e72 => ?_)
        ·
         refine WS.opV (.bool false) rfl rfl rfl (WS.nil [(0, _), (1, _), (5, _), (6, _), (7, _), (8, _), (73, _)] rfl ?_)
         refine WC.condF rfl ?_
         refine WC.skip ?_
         refine WC.seq ?_
         refine WC.run ?_
         refine WS.op rfl rfl ?_
         refine WS.neqN (a := (cd61).toNat) (b := 0) rfl rfl rfl (fun e75 => ?_) (fun e75 => ?_)
         ·
          refine WS.nil [(0, _), (1, _), (5, _), (6, _), (7, _), (8, _), (75, _)] rfl ?_
          refine WC.condT rfl ?_
          refine WC.seq ?_
          refine WC.run ?_
          refine WS.op rfl rfl ?_
          refine WS.eqlN (a := (cd61).toNat) (b := 5) rfl rfl rfl (fun e77 => ?_) (fun e77 => ?_)
          ·
           refine WS.op rfl rfl ?_
           refine WS.call rfl rfl rfl (awake18_ran M38.here ) ?_
           rintro _ h46 ⟨rfl, N47⟩
           have M48 := M38.trans N47
           refine WS.op rfl rfl (WS.op rfl rfl (WS.nil [(4, _)] rfl ?_))
           refine WC.ret ?_
           refine ⟨[_], (res_tmp rfl res_nil), ?_⟩
           rfl
          ·
           refine WS.op rfl rfl (WS.offC rfl (WS.op rfl rfl (WS.op rfl rfl (WS.nil [(4, _)] rfl ?_))))
           refine WC.ret ?_
           refine ⟨[_], (res_tmp rfl res_nil), ?_⟩
           exfalso
           first
           | (rw [hln] at e51; split at e51 <;> omega)
           | (have hyy := of_take hy41 hy69
              subst hyy
              by_cases q : k < tu.toNat
              · have := (hlk.1 q).1; rw [this] at e66; first | exact absurd rfl e66 | omega
              · have := hlk.2 q; rw [this] at e66; first | (simp at e66; done) | omega)
           | (have hyy := of_take hy41 hy69
              subst hyy
              by_cases q : k < tu.toNat
              · have := (hlk.1 q).1; rw [this] at e75; exact absurd rfl e75
              · have := hlk.2 q; rw [this] at e77; exact absurd rfl e77)
         ·
          have hyy := of_take hy41 hy69
          subst hyy
          have hlt : k < tu.toNat := by by_cases q : k < tu.toNat; exact q; (have := hlk.2 q; rw [this] at e75; simp at e75)
          refine WS.nil [(0, _), (1, _), (5, _), (6, _), (7, _), (8, _), (75, _)] rfl ?_
          refine WC.condF rfl ?_
          refine WC.skip ?_
          refine WC.run ?_
          refine WS.op rfl rfl (WS.opV (.int .i64 (((w + 1) : Nat) : Int)) rfl rfl (add_i64 (a := w) (b := 1) (by omega)) (WS.op rfl rfl (WS.nil [(0, _), (1, _), (5, _), (6, _), (8, _)] rfl ?_)))
          refine ⟨(V39, S40, w + 1), rfl, ⟨(by have q := (((M38.bare.focus 2 rfl).focus 1 rfl).take 2); rw [(hlk.1 hlt).2] at q; exact q), ?_⟩, ?_⟩
          · exact ⟨by rw [← (hlk.1 hlt).2]; exact O41, by omega⟩
          · simp only []; omega
        ·
         refine WS.opV (.bool true) rfl rfl rfl (WS.nil [(0, _), (1, _), (5, _), (6, _), (7, _), (8, _), (73, _)] rfl ?_)
         refine WC.condT rfl ?_
         refine WC.seq ?_
         refine WC.run ?_
         refine WS.op rfl rfl (WS.nil [(4, _)] rfl ?_)
         refine WC.ret ?_
         refine ⟨[_], (res_tmp rfl res_nil), ?_⟩
         exfalso
         first
         | (rw [hln] at e51; split at e51 <;> omega)
         | (have hyy := of_take hy41 hy69
            subst hyy
            by_cases q : k < tu.toNat
            · have := (hlk.1 q).1; rw [this] at e66; first | exact absurd rfl e66 | omega
            · have := hlk.2 q; rw [this] at e66; first | (simp at e66; done) | omega)
         | (have hyy := of_take hy41 hy69
            subst hyy
            by_cases q : k < tu.toNat
            · have := (hlk.1 q).1; rw [this] at e75; exact absurd rfl e75
            · have := hlk.2 q; rw [this] at e77; exact absurd rfl e77)
       ·
        refine WS.op rfl rfl (WS.op rfl rfl ?_)
        obtain ⟨y69, hy69⟩ : ∃ y, (ws)[w]? = some y := ⟨_, List.getElem?_eq_getElem (show w < (ws).length by first | omega | (simp only [List.length_drop, List.length_take, List.length_append, List.length_cons, List.length_nil, List.length_singleton]; omega) | (simp only [List.length_drop, List.length_take, List.length_append, List.length_cons, List.length_nil, List.length_singleton] at *; omega))⟩
        refine WS.iaVS A2 w hy69 rfl rfl rfl rfl ?_
        intro b69_ o69_ ha69
        refine WS.op rfl (op_ldH rfl (At.ld0 (ha69.mono M38.sub) rfl)) (WS.op rfl rfl ?_)
        refine WS.lssN (a := (y69).toNat) (b := (tl).toNat) rfl rfl rfl (fun e72 => ?_) (fun e72 => ?_)
        ·
         refine WS.opV (.bool true) rfl rfl rfl (WS.nil [(0, _), (1, _), (5, _), (6, _), (7, _), (8, _), (73, _)] rfl ?_)
         refine WC.condT rfl ?_
         refine WC.seq ?_
         refine WC.run ?_
         refine WS.op rfl rfl (WS.nil [(4, _)] rfl ?_)
         refine WC.ret ?_
         refine ⟨[_], (res_tmp rfl res_nil), ?_⟩
         exfalso
         first
         | (rw [hln] at e51; split at e51 <;> omega)
         | (have hyy := of_take hy41 hy69
            subst hyy
            by_cases q : k < tu.toNat
            · have := (hlk.1 q).1; rw [this] at e66; first | exact absurd rfl e66 | omega
            · have := hlk.2 q; rw [this] at e66; first | (simp at e66; done) | omega)
         | (have hyy := of_take hy41 hy69
            subst hyy
            by_cases q : k < tu.toNat
            · have := (hlk.1 q).1; rw [this] at e75; exact absurd rfl e75
            · have := hlk.2 q; rw [this] at e77; exact absurd rfl e77)
        ·
         refine WS.opV (.bool false) rfl rfl rfl (WS.nil [(0, _), (1, _), (5, _), (6, _), (7, _), (8, _), (73, _)] rfl ?_)
         refine WC.condF rfl ?_
         refine WC.skip ?_
         refine WC.seq ?_
         refine WC.run ?_
         refine WS.op rfl rfl ?_
         refine WS.neqN (a := (cd61).toNat) (b := 0) rfl rfl rfl (fun e75 => ?_) (fun e75 => ?_)
         ·
          refine WS.nil [(0, _), (1, _), (5, _), (6, _), (7, _), (8, _), (75, _)] rfl ?_
          refine WC.condT rfl ?_
          refine WC.seq ?_
          refine WC.run ?_
          refine WS.op rfl rfl ?_
          refine WS.eqlN (a := (cd61).toNat) (b := 5) rfl rfl rfl (fun e77 => ?_) (fun e77 => ?_)
          ·
           refine WS.op rfl rfl ?_
           refine WS.call rfl rfl rfl (awake18_ran M38.here ) ?_
           rintro _ h49 ⟨rfl, N50⟩
           have M51 := M38.trans N50
           refine WS.op rfl rfl (WS.op rfl rfl (WS.nil [(4, _)] rfl ?_))
           refine WC.ret ?_
           refine ⟨[_], (res_tmp rfl res_nil), ?_⟩
           rfl
          ·
           refine WS.op rfl rfl (WS.offC rfl (WS.op rfl rfl (WS.op rfl rfl (WS.nil [(4, _)] rfl ?_))))
           refine WC.ret ?_
           refine ⟨[_], (res_tmp rfl res_nil), ?_⟩
           exfalso
           first
           | (rw [hln] at e51; split at e51 <;> omega)
           | (have hyy := of_take hy41 hy69
              subst hyy
              by_cases q : k < tu.toNat
              · have := (hlk.1 q).1; rw [this] at e66; first | exact absurd rfl e66 | omega
              · have := hlk.2 q; rw [this] at e66; first | (simp at e66; done) | omega)
           | (have hyy := of_take hy41 hy69
              subst hyy
              by_cases q : k < tu.toNat
              · have := (hlk.1 q).1; rw [this] at e75; exact absurd rfl e75
              · have := hlk.2 q; rw [this] at e77; exact absurd rfl e77)
         ·
          have hyy := of_take hy41 hy69
          subst hyy
          have hlt : k < tu.toNat := by by_cases q : k < tu.toNat; exact q; (have := hlk.2 q; rw [this] at e75; simp at e75)
          refine WS.nil [(0, _), (1, _), (5, _), (6, _), (7, _), (8, _), (75, _)] rfl ?_
          refine WC.condF rfl ?_
          refine WC.skip ?_
          refine WC.run ?_
          refine WS.op rfl rfl (WS.opV (.int .i64 (((w + 1) : Nat) : Int)) rfl rfl (add_i64 (a := w) (b := 1) (by omega)) (WS.op rfl rfl (WS.nil [(0, _), (1, _), (5, _), (6, _), (8, _)] rfl ?_)))
          refine ⟨(V39, S40, w + 1), rfl, ⟨(by have q := (((M38.bare.focus 2 rfl).focus 1 rfl).take 2); rw [(hlk.1 hlt).2] at q; exact q), ?_⟩, ?_⟩
          · exact ⟨by rw [← (hlk.1 hlt).2]; exact O41, by omega⟩
          · simp only []; omega
    ·
     refine WS.nil [(0, _), (1, _), (5, _), (6, _), (8, _), (35, _)] rfl ?_
     refine WC.condF rfl ?_
     refine WC.exit ?_
     refine WC.seq ?_
     refine WC.run ?_
     refine WS.call rfl rfl rfl (awake18_ran M24.here ) ?_
     rintro _ h52 ⟨rfl, N53⟩
     have M54 := M24.trans N53
     refine WS.op rfl rfl (WS.nil [(4, _)] rfl ?_)
     refine WC.ret ?_
     refine ⟨[_], (res_tmp rfl res_nil), ?_⟩
     rfl
end Go.Proofs.Ytomaijljeacpjaa.Wt
