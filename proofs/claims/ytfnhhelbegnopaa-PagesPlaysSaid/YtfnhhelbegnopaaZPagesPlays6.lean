/- The law 'PagesPlays' returns true for all arguments: what its proof stands on, part 6. -/
import Derived.Test.YtfnhhelbegnopaaZPagesPlays5
namespace Go.Proofs.Ytfnhhelbegnopaa.Wt
open Go Go.Proofs.Ytfnhhelbegnopaa.Am Go.Proofs.Ytfnhhelbegnopaa.IrAll
open Go.Proofs.Ytfnhhelbegnopaa.Am.WS renaming op → C
set_option linter.unusedVariables false
set_option linter.unusedSimpArgs false
variable {h base : H} {L : List Seg} {R : List Nat}
theorem mem_lst {gs : List Pg} {g : Pg} (h : g ∈ gs) : g.l ∈ lst gs := List.mem_map.2 ⟨g, h, rfl⟩
theorem lst_get {gs : List Pg} {i : Nat} {g : Pg} (h : gs[i]? = some g) : (lst gs)[i]? = some g.l := by unfold lst; rw [List.getElem?_map, h]; rfl
theorem lst_get' {gs : List Pg} {i : Nat} {l : List It} (h : (lst gs)[i]? = some l) : ∃ g, gs[i]? = some g ∧ g.l = l := by
  unfold lst at h; rw [List.getElem?_map] at h
  cases q : gs[i]? with
  | none => rw [q] at h; cases h
  | some g => rw [q] at h; simp at h; exact ⟨g, rfl, h⟩
theorem page_small {L : List (List It)} (h : Inv L) {g : List It} (hg : g ∈ L) : g.length ≤ 1000000 := by have := (h.1 g hg).2; omega
theorem fkr {gs : List Pg} (hI : Inv (lst gs)) {i j : Nat} {g g2 : Pg} (hij : i < j) (hi : gs[i]? = some g) (hj : gs[j]? = some g2) : kL (fk g.l) (fk g2.l) := fk_rise hI hij (lst_get hi) (lst_get hj)
theorem search_ran (W : Mem h h [] []) {p b1 b2 n : Nat} {gs : List Pg} {key : List UInt8} (G : PgR h p gs n) (q1 : h.get b1 = some ⟨[.pointer (some ⟨p, 0, none⟩)], 0, false⟩) (q2 : h.get b2 = some ⟨[.string (bs key)], 0, false⟩) (hne : ∀ g ∈ gs, g.l ≠ []) (hI : Inv (lst gs)) (hlen : gs.length ≤ 1000000) :
    Cll tab0 43 [.int .i64 (gs.length : Int), .func (.func 44) #[] #[.pointer (some ⟨b1, 0, none⟩), .pointer (some ⟨b2, 0, none⟩)]] h (fun v h2 => ∃ s : Nat, v = .int .i64 (s : Int) ∧ IsHome key (lst gs) s ∧ Mem h h2 [] []) := by
  refine Cll.code rfl rfl ?_
  refine WC.env [(0, _), (1, _)] rfl ?_
  refine WC.seq (WC.run (C rfl rfl (WS.nil [(0, _), (1, _)] rfl ?_)))
  refine WC.seq (WC.run (C rfl rfl (C rfl rfl (C rfl rfl (WS.nil [(1, _), (5, _), (6, _)] rfl ?_)))))
  refine WC.seq (WC.block ?_)
  obtain ⟨L1, eL3, M2⟩ := Mem.name W.bare
  refine WC.loop (σ := Nat × Nat) (fun ((i, j)) => [(1, (.func (.func 44) #[] #[(.pointer (some ⟨b1, 0, none⟩)), (.pointer (some ⟨b2, 0, none⟩))])), (5, (.int .i64 ((i : Nat) : Int))), (6, (.int .i64 ((j : Nat) : Int)))]) (fun ((i, j)) hh => Mem h hh (L1) [] ∧ i ≤ j ∧ j ≤ gs.length ∧ (∀ k x, k < i → gs[k]? = some x → ¬ kL key (fk x.l)) ∧ ∀ k x, j ≤ k → gs[k]? = some x → kL key (fk x.l)) (fun ((i, j)) => j - i) (0, gs.length) rfl ⟨M2, ?_⟩ ?_
  · exact ⟨by omega, by omega, fun k x q => by omega, fun k x q hx => by have := (List.getElem?_eq_some_iff.1 hx).1; omega⟩
  ·rintro ⟨i, j⟩ h4 ⟨M5, ⟨h1, h2, h3, h4⟩⟩
   replace eL3 := eL3.symm; subst eL3
   refine WC.env [(1, _), (5, _), (6, _)] rfl ?_
   refine WC.seq (WC.seq (WC.run (C rfl rfl (C rfl rfl ?_))))
   refine WS.lssN (a := i) (b := j) rfl rfl rfl (fun e11 => ?_) (fun e11 => ?_)
   ·
    refine WS.nil [(1, _), (5, _), (6, _), (11, _)] rfl ?_
    refine WC.condT rfl (WC.skip (WC.block (WC.seq (WC.run (C rfl rfl (C rfl rfl (WS.opV (.int .i64 (((i + j) : Nat) : Int)) rfl rfl (add_i64 (a := i) (b := j) (by omega)) (WS.opV (.int .u64 (((i + j) : Nat) : Int)) rfl rfl (cv_u64 (n := (i + j)) (by omega)) (WS.opV (.int .u64 (((i + j) / 2 : Nat) : Int)) rfl rfl shr1 (WS.opV (.int .i64 ((((i + j) / 2) : Nat) : Int)) rfl rfl (cv_i64 (n := ((i + j) / 2)) (by omega)) (C rfl rfl (WS.nil [(1, _), (5, _), (6, _), (7, _)] rfl ?_))))))))))))
    refine WC.seq (WC.run (C rfl rfl (C rfl rfl ?_)))
    obtain ⟨g20, hg20⟩ : ∃ g, gs[((i + j) / 2)]? = some g := ⟨_, List.getElem?_eq_getElem (by omega)⟩
    refine WS.call rfl rfl rfl (page1_ran M5.here (G.mono M5.sub) (M5.sub _ _ q1) (M5.sub _ _ q2) hg20 (hne _ (List.mem_of_getElem? hg20))) ?_
    rintro _ h6 ⟨rfl, N7⟩
    have M8 := M5.trans N7
    cases hb1 : (decide (kL key (fk g20.l)))
    ·
     refine WS.opV (.bool true) rfl rfl rfl (WS.nil [(1, _), (5, _), (6, _), (7, _), (21, _)] rfl ?_)
     refine WC.condT rfl (WC.run (C rfl rfl (WS.opV (.int .i64 (((((i + j) / 2) + 1) : Nat) : Int)) rfl rfl (add_i64 (a := ((i + j) / 2)) (b := 1) (by omega)) (C rfl rfl (WS.nil [(1, _), (5, _), (6, _)] rfl ?_)))))
     refine ⟨((((i + j) / 2) + 1), j), rfl, ⟨(M8.bare.take 0), ?_⟩, ?_⟩
     · have q0 : ¬ kL key (fk g20.l) := of_decide_eq_false (by assumption)
       exact ⟨by omega, by omega, fun k x q hx => if c : k = (i + j) / 2 then (by subst c; rw [hg20] at hx; cases hx; exact q0) else fun z => q0 (kL_tr z (fkr hI (by omega) hx hg20)), fun k x q hx => h4 k x (by omega) hx⟩
     · simp only []; omega
    ·
     refine WS.opV (.bool false) rfl rfl rfl (WS.nil [(1, _), (5, _), (6, _), (7, _), (21, _)] rfl ?_)
     refine WC.condF rfl (WC.run (C rfl rfl (C rfl rfl (WS.nil [(1, _), (5, _), (6, _)] rfl ?_))))
     refine ⟨(i, ((i + j) / 2)), rfl, ⟨(M8.bare.take 0), ?_⟩, ?_⟩
     · have q0 : kL key (fk g20.l) := of_decide_eq_true (by assumption)
       exact ⟨by omega, by omega, fun k x q hx => h3 k x (by omega) hx, fun k x q hx => if c : k = (i + j) / 2 then (by subst c; rw [hg20] at hx; cases hx; exact q0) else kL_tr q0 (fkr hI (by omega) hg20 hx)⟩
     · simp only []; omega
   ·
    refine WS.nil [(1, _), (5, _), (6, _), (11, _)] rfl ?_
    refine WC.condF rfl (WC.exit ?_)
    refine WC.seq (WC.run (C rfl rfl (C rfl rfl (WS.nil [(4, _)] rfl ?_))))
    refine WC.ret (⟨[_], (res_tmp rfl res_nil), ?_⟩)
    refine ⟨i, rfl, ⟨by simp only [lst, List.length_map]; omega, fun k x q hx => ?_, fun k x q hx => ?_⟩, M5.bare.take 0⟩
    · obtain ⟨g, hg, rfl⟩ := lst_get' hx; exact h3 k g q hg
    · obtain ⟨g, hg, rfl⟩ := lst_get' hx; exact h4 k g (by omega) hg
theorem sub1 {s : Nat} (h : s ≤ 1000000) : Value.int .i64 (IntKind.i64.wrap ((s : Int) - 1)) = .int .i64 ((s : Int) - 1) := by
  congr 1; rw [IntKind.wrap_i64]; omega
theorem max0 {s : Nat} : Value.int .i64 (if (0 : Int) > (s : Int) - 1 then 0 else (s : Int) - 1) = .int .i64 ((s - 1 : Nat) : Int) := by
  congr 1; split <;> omega
theorem page_ran (W : Mem h h [] []) {p n : Nat} {gs : List Pg} {key : List UInt8} (G : PgR h p gs n) (hI : Inv (lst gs)) (hg0 : gs ≠ []) (hlen : gs.length ≤ 1000000) :
    Cll tab0 35 [.pointer (some ⟨p, 0, none⟩), .string (bs key)] h (fun v h2 => ∃ s : Nat, v = .int .i64 ((s - 1 : Nat) : Int) ∧ IsHome key (lst gs) s ∧ Mem h h2 [] []) := by
  have hne : ∀ g ∈ gs, g.l ≠ [] := fun g hg => (hI.1 _ (mem_lst hg)).1
  have G0 := G
  obtain ⟨⟨Vo, hp, hO⟩, hP⟩ := G0
  obtain ⟨Pl, nl, rfl⟩ := hO.shape
  refine Cll.code rfl rfl ?_
  refine WC.env [(0, _), (1, _)] rfl ?_
  refine WC.seq (WC.run (WS.box W [_] rfl rfl rfl rfl ?_))
  intro p1 h2 M3
  refine WS.box M3 [_] rfl rfl rfl rfl ?_
  intro p4 h5 M6
  refine C rfl rfl (WS.nil [(2, _), (3, _)] rfl ?_)
  refine WC.seq (WC.run (C rfl (op_ld (M6.at 1 rfl) rfl rfl) (C rfl rfl (C rfl rfl (C rfl (op_ld (M6.sub _ _ hp) rfl rfl) (C rfl (op_lenVS hO rfl) (C rfl rfl ?_)))))))
  refine WS.call rfl rfl rfl (search_ran M6.here (G.mono M6.sub) (M6.at 1 rfl) (M6.at 0 rfl) hne hI (by omega)) ?_
  rintro _ h7 ⟨s11, rfl, hs11, N8⟩
  have M9 := M6.trans N8
  refine WS.opV (.int .i64 ((s11 : Int) - 1)) rfl rfl (sub1 (by have := hs11.1; simp only [lst, List.length_map] at this; omega)) (WS.opV (.int .i64 ((s11 - 1 : Nat) : Int)) rfl rfl max0 (C rfl rfl (WS.nil [(4, _)] rfl ?_)))
  refine WC.ret (⟨[_], (res_tmp rfl res_nil), ?_⟩)
  exact ⟨s11, rfl, hs11, M9.bare.take 0⟩
def Placed (gs : List Pg) (key : List UInt8) (pg a : Nat) (b : Bool) : Prop := (gs = [] ∧ pg = 0 ∧ a = 0 ∧ b = false) ∨ (pg = home key (lst gs) ∧ ∃ g, gs[pg]? = some g ∧ IsCut key g.l a ∧ (b = true ↔ ∃ y, g.l[a]? = some y ∧ y.ky = key))
theorem place_ran (W : Mem h h [] []) {p n : Nat} {gs : List Pg} {key : List UInt8} (G : PgR h p gs n) (hI : Inv (lst gs)) (hlen : gs.length ≤ 1000000) :
    Cll tab0 27 [.pointer (some ⟨p, 0, none⟩), .string (bs key)] h (fun v h2 => ∃ (pg a : Nat) (b : Bool), v = .tuple #[.int .i64 (pg : Int), .int .i64 (a : Int), .bool b] ∧ Placed gs key pg a b ∧ Mem h h2 [] []) := by
  have G0 := G
  obtain ⟨⟨Vo, hp, hO⟩, hP⟩ := G0
  obtain ⟨Pl, nl, rfl⟩ := hO.shape
  refine Cll.code rfl rfl ?_
  refine WC.env [(0, _), (1, _)] rfl ?_
  refine WC.seq (WC.run (C rfl rfl (C rfl rfl (C rfl rfl (WS.nil [(0, _), (1, _)] rfl ?_)))))
  refine WC.seq (WC.seq (WC.run (C rfl rfl (WS.opV (.bool false) rfl rfl rfl (C rfl rfl (C rfl rfl (C rfl rfl (C rfl rfl (C rfl (op_ld (W.sub _ _ hp) rfl rfl) (C rfl (op_lenVS hO rfl) ?_))))))))))
  refine WS.eqlN (a := (gs).length) (b := 0) rfl rfl rfl (fun e15 => ?_) (fun e15 => ?_)
  ·
   refine C rfl rfl (WS.nil [(0, _), (1, _), (16, _)] rfl ?_)
   refine WC.condT rfl (WC.seq (WC.run (C rfl rfl (C rfl rfl (C rfl rfl (WS.nil [(4, _), (5, _), (6, _)] rfl ?_))))))
   refine WC.ret (⟨[_, _, _], (res_tmp rfl (res_tmp rfl (res_tmp rfl res_nil))), ?_⟩)
   exact ⟨0, 0, false, rfl, .inl ⟨List.eq_nil_of_length_eq_zero e15, rfl, rfl, rfl⟩, W.bare.take 0⟩
  ·
   refine C rfl rfl (WS.nil [(0, _), (1, _), (16, _)] rfl ?_)
   refine WC.condF rfl (WC.skip (WC.seq (WC.run (C rfl rfl (C rfl rfl ?_)))))
   refine WS.call rfl rfl rfl (page_ran W.here (key := key) (G.mono W.sub) hI (fun q => by simp [q] at *) hlen) ?_
   rintro _ h1 ⟨s19, rfl, h19, N2⟩
   have M3 := W.trans N2
   refine C rfl rfl (WS.nil [(0, _), (1, _), (4, _)] rfl ?_)
   refine WC.seq (WC.run (C rfl rfl (C rfl rfl (C rfl rfl (C rfl (op_ld (M3.sub _ _ hp) rfl rfl) (C rfl rfl ?_))))))
   have hsl : s19 - 1 < gs.length := by have := h19.1; simp only [lst, List.length_map] at this; omega
   obtain ⟨y26, hy26⟩ : ∃ y, (gs)[(s19 - 1)]? = some y := ⟨_, List.getElem?_eq_getElem (show (s19 - 1) < (gs).length by first | omega | (simp only [List.length_drop, List.length_take, List.length_append, List.length_cons, List.length_nil, List.length_singleton]; omega) | (simp only [List.length_drop, List.length_take, List.length_append, List.length_cons, List.length_nil, List.length_singleton] at *; omega))⟩
   refine WS.iaVS hO (s19 - 1) hy26 rfl rfl rfl rfl ?_
   intro b26_ o26_ ha26
   refine C rfl (op_ldH rfl (At.ld0 (ha26.mono M3.sub) rfl)) (C rfl rfl ?_)
   refine WS.call rfl rfl rfl (bsearch_ran M3.here (key := key) ((Pg.sl (hP y26 (List.mem_of_getElem? hy26))).mono M3.sub) (inv_page hI (mem_lst (List.mem_of_getElem? hy26))) (page_small hI (mem_lst (List.mem_of_getElem? hy26)))) ?_
   rintro _ h4 ⟨a29, b29, rfl, c29, hb29, N5⟩
   have M6 := M3.trans N5
   refine C rfl rfl (C rfl rfl (C rfl rfl (C rfl rfl (C rfl rfl (WS.nil [(4, _), (5, _), (6, _)] rfl ?_)))))
   refine WC.seq (WC.run (C rfl rfl (C rfl rfl (C rfl rfl (C rfl rfl (C rfl rfl (C rfl rfl (WS.nil [(4, _), (5, _), (6, _)] rfl ?_))))))))
   refine WC.ret (⟨[_, _, _], (res_tmp rfl (res_tmp rfl (res_tmp rfl res_nil))), ?_⟩)
   exact ⟨_, _, _, rfl, .inr ⟨home_eq h19, y26, hy26, c29, hb29⟩, M6.bare.take 0⟩
end Go.Proofs.Ytfnhhelbegnopaa.Wt
namespace Go.Proofs.Ytfnhhelbegnopaa.Wt
open Go Go.Proofs.Ytfnhhelbegnopaa.Am Go.Proofs.Ytfnhhelbegnopaa.IrAll
open Go.Proofs.Ytfnhhelbegnopaa.Am.WS renaming op → C
open List renaming length_append → D
open List renaming length_cons → J
open List renaming length_nil → U
open List renaming length_take → X
open List renaming length_drop → Y
open Nat renaming le_of_ble_eq_true → AQ
open Go.Proofs.Ytfnhhelbegnopaa.Am.WS renaming nil → AX
open Go.Proofs.Ytfnhhelbegnopaa.Am.WC renaming seq → AZ
open List renaming length_singleton → BQ
open Go.Proofs.Ytfnhhelbegnopaa.Am.WC renaming run → BX
set_option linter.unusedVariables false
set_option linter.unusedSimpArgs false
variable {h base : H} {L : List Seg} {R : List Nat}
def KNi : Row Nat := ⟨fun n => [.int .i64 (n : Int)], 1, fun _ => rfl, by decide, fun _ => rfl⟩
def It.vl (x : It) : Vl := ⟨x.va, x.vn, x.ls⟩
def zeroV : Vl := ⟨[], 0, 0⟩
def getV (F : List It) (key : List UInt8) : Vl × Bool := match getF F key with | some x => (x.vl, true) | none => (zeroV, false)
theorem lst_split {gs : List Pg} {A B : List (List It)} {g : List It} (e : lst gs = A ++ g :: B) : ∃ g1 y g2, gs = g1 ++ y :: g2 ∧ lst g1 = A ∧ y.l = g ∧ lst g2 = B := by
  unfold lst at e
  obtain ⟨g1, r, e1, e2, e3⟩ := List.map_eq_append_iff.1 e
  obtain ⟨y, g2, e4, e5, e6⟩ := List.map_eq_cons_iff.1 e3
  exact ⟨g1, y, g2, by rw [e1, e4], e2, e5, e6⟩
theorem placed_split {gs : List Pg} {key : List UInt8} {pg a : Nat} {b : Bool} (hI : Inv (lst gs)) (hne : gs ≠ []) (hp : Placed gs key pg a b) : ∃ g1 y g2, gs = g1 ++ y :: g2 ∧ g1.length = pg ∧ pg = home key (lst gs) ∧ IsCut key y.l a ∧ (b = true ↔ ∃ z, y.l[a]? = some z ∧ z.ky = key) ∧ SrtI y.l ∧ (∀ x ∈ (lst g1).flatten, kL x.ky key) ∧ (∀ x ∈ (lst g2).flatten, kL key x.ky) := by
  rcases hp with ⟨q, _⟩ | ⟨hh, g, hg, hc, hb⟩
  · exact absurd q hne
  · obtain ⟨A, gl, B, e, hA, h1, h2⟩ := home_split hI (by unfold lst; simpa using hne) key
    obtain ⟨g1, y, g2, e1, e2, e3, e4⟩ := lst_split e
    have hl : g1.length = pg := by rw [hh, ← hA, ← e2]; simp [lst]
    have hy : y = g := by
      have : gs[pg]? = some y := by rw [e1, ← hl]; simp
      rw [hg] at this; cases this; rfl
    subst hy
    exact ⟨g1, y, g2, e1, hl, hh, hc, hb, inv_page hI (mem_lst (List.mem_of_getElem? hg)), by rw [e2]; exact h1, by rw [e4]; exact h2⟩
theorem placed_get {gs : List Pg} {key : List UInt8} {pg a : Nat} {b : Bool} (hI : Inv (lst gs)) (hp : Placed gs key pg a b) : (b = true → ∃ g y, gs[pg]? = some g ∧ g.l[a]? = some y ∧ getF (lst gs).flatten key = some y) ∧ (b = false → getF (lst gs).flatten key = none) := by
  by_cases hne : gs = []
  · rcases hp with ⟨_, _, _, q⟩ | ⟨_, g, hg, _⟩
    · exact ⟨fun e => by rw [q] at e; (cases e), fun _ => by rw [hne]; rfl⟩
    · rw [hne] at hg; simp at hg
  · obtain ⟨g1, y, g2, e, hl, hh, hc, hb, hs, h1, h2⟩ := placed_split hI hne hp
    have he : lst gs = lst g1 ++ y.l :: lst g2 := by rw [e]; simp [lst]
    rw [get_split he h1 h2]
    refine ⟨fun q => ?_, fun q => ?_⟩
    · obtain ⟨z, hz, ez⟩ := hb.1 q
      exact ⟨y, z, by rw [e, ← hl]; simp, hz, get_there hc hz ez⟩
    · exact get_none (cut_not hs hc fun z hz ez => by have := hb.2 ⟨z, hz, ez⟩; rw [q] at this; cases this)
theorem Get_ran (W : Mem h h [] []) {p n : Nat} {gs : List Pg} {key : List UInt8} (G : PgR h p gs n) (hI : Inv (lst gs)) (hlen : gs.length ≤ 1000000) :
    Cll tab0 15 [.pointer (some ⟨p, 0, none⟩), .string (bs key)] h (fun v h2 => v = .tuple #[.agg (Vl.cells (getV (lst gs).flatten key).1).toArray, .bool (getV (lst gs).flatten key).2] ∧ Mem h h2 [] []) := by
  have G0 := G
  obtain ⟨⟨Vo, hp, hO⟩, hP⟩ := G0
  obtain ⟨Pl, nl, rfl⟩ := hO.shape
  refine Cll.code rfl rfl ?_
  refine WC.env [(0, _), (1, _)] rfl ?_
  refine AZ (BX (WS.new W rfl ?_))
  intro p1 h2 M3
  refine C rfl rfl (AX [(0, _), (1, _), (4, _)] rfl ?_)
  refine AZ (BX (C rfl rfl (C rfl rfl ?_)))
  refine WS.call rfl rfl rfl (place_ran M3.here (key := key) (G.mono M3.sub) hI hlen) ?_
  rintro _ h4 ⟨pg12, at12, b12, rfl, hpl12, N5⟩
  have M6 := M3.trans N5
  refine C rfl rfl (C rfl rfl (C rfl rfl (C rfl rfl (C rfl rfl (C rfl rfl (C rfl rfl (AX [(0, _), (4, _), (6, _), (7, _), (8, _)] rfl ?_)))))))
  refine AZ (AZ (BX (C rfl rfl ?_)))
  cases hb1 : b12
  ·
   refine WS.opV (.bool true) rfl rfl rfl (AX [(0, _), (4, _), (6, _), (7, _), (17, _)] rfl ?_)
   refine WC.condT rfl (AZ (BX (WS.opV (.agg #[(.string (bs ([]))), (.int .u64 (0 : Int)), (.int .u64 (0 : Int))]) rfl rfl rfl ?_)))
   refine WS.st1 (M6.focus 0 rfl) [_, _, _] [_, _, _] rfl rfl rfl rfl rfl (AQ rfl) (AQ rfl) rfl rfl ?_
   intro h7 M8
   replace M8 : Mem _ _ ([(p1, _)] :: []) _ := M8
   refine C rfl rfl (AX [(4, _), (5, _)] rfl ?_)
   refine WC.ret (⟨[_, _], (res_cellN [_, _, _] rfl (M8.at 0 rfl) (AQ rfl) rfl (res_tmp rfl res_nil)), ?_⟩)
   exact ⟨by unfold getV; rw [(placed_get hI hpl12).2 (by assumption)]; rfl, M8.bare.take 0⟩
  ·
   refine WS.opV (.bool false) rfl rfl rfl (AX [(0, _), (4, _), (6, _), (7, _), (17, _)] rfl ?_)
   refine WC.condF rfl (WC.skip (AZ (BX ?_)))
   obtain ⟨g_, y_, hg_, hy_, hf_⟩ := (placed_get hI hpl12).1 (by assumption)
   have hb_ := (List.getElem?_eq_some_iff.1 hg_).1
   refine C rfl rfl (C rfl rfl (C rfl rfl (C rfl (op_ld (M6.sub _ _ hp) rfl rfl) (C rfl rfl ?_))))
   obtain ⟨y24, hy24⟩ : ∃ y, (gs)[pg12]? = some y := ⟨_, List.getElem?_eq_getElem (show pg12 < (gs).length by first | omega | (simp only [Y, X, D, J, U, BQ]; omega) | (simp only [Y, X, D, J, U, BQ] at *; omega))⟩
   refine WS.iaVS hO pg12 hy24 rfl rfl rfl rfl ?_
   intro b24_ o24_ ha24
   refine C rfl (op_ldH rfl (At.ld0 (ha24.mono M6.sub) rfl)) ?_
   have e24 : y24 = g_ := Option.some.inj (hy24.symm.trans hg_)
   subst e24
   have hc_ := (List.getElem?_eq_some_iff.1 hy_).1
   refine C rfl rfl ?_
   obtain ⟨y27, hy27⟩ : ∃ y, (y24.l)[at12]? = some y := ⟨_, List.getElem?_eq_getElem (show at12 < (y24.l).length by first | omega | (simp only [Y, X, D, J, U, BQ]; omega) | (simp only [Y, X, D, J, U, BQ] at *; omega))⟩
   refine WS.iaVS (Pg.sl (hP y24 (List.mem_of_getElem? hy24))) at12 hy27 rfl rfl rfl rfl ?_
   intro b27_ o27_ ha27
   refine C rfl rfl (C rfl (op_ldN rfl (At.ldsub (ha27.mono M6.sub) (cs2 := [_, _, _]) rfl (AQ rfl))) ?_)
   refine WS.st1 (M6.focus 0 rfl) [_, _, _] [_, _, _] rfl rfl rfl rfl rfl (AQ rfl) (AQ rfl) rfl rfl ?_
   intro h9 M10
   replace M10 : Mem _ _ ([(p1, _)] :: []) _ := M10
   refine C rfl rfl (AX [(4, _), (5, _)] rfl ?_)
   refine WC.ret (⟨[_, _], (res_cellN [_, _, _] rfl (M10.at 0 rfl) (AQ rfl) rfl (res_tmp rfl res_nil)), ?_⟩)
   have e27 : y27 = y_ := Option.some.inj (hy27.symm.trans hy_)
   subst e27
   exact ⟨by unfold getV; rw [hf_]; rfl, M10.bare.take 0⟩
theorem Len_ran (W : Mem h h [] []) {p n : Nat} {gs : List Pg} (G : PgR h p gs n) : Cll tab0 11 [.pointer (some ⟨p, 0, none⟩)] h (fun v h2 => v = .int .i64 (n : Int) ∧ Mem h h2 [] []) := by
  obtain ⟨⟨Vo, hp, hO⟩, hP⟩ := G
  obtain ⟨Pl, nl, rfl⟩ := hO.shape
  refine Cll.code rfl rfl ?_
  refine WC.env [(0, _)] rfl ?_
  refine AZ (BX (C rfl rfl (AX [(0, _)] rfl ?_)))
  refine AZ (AZ (BX (C rfl rfl (WS.opV (.bool false) rfl rfl rfl (AX [(0, _), (4, _)] rfl ?_)))))
  refine WC.condF rfl (WC.skip (AZ (BX (C rfl rfl (C rfl rfl (C rfl rfl (C rfl (op_ld (W.sub _ _ hp) rfl rfl) (C rfl rfl (AX [(2, _)] rfl ?_)))))))))
  refine WC.ret (⟨[_], (res_tmp rfl res_nil), ?_⟩)
  exact ⟨rfl, W.bare.take 0⟩
theorem Sizes_ran (W : Mem h h [] []) {p n : Nat} {gs : List Pg} (G : PgR h p gs n) (hlen : gs.length ≤ 1000000) : Cll tab0 10 [.pointer (some ⟨p, 0, none⟩)] h (fun v h2 => ∃ S, KNi.Own v ((lst gs).map List.length) S ∧ Mem h h2 [S] []) := by
  obtain ⟨⟨Vo, hp, hO⟩, hP⟩ := G
  obtain ⟨Pl, nl, rfl⟩ := hO.shape
  refine Cll.code rfl rfl ?_
  refine WC.env [(0, _)] rfl ?_
  refine AZ (BX (C rfl rfl (AX [(0, _)] rfl ?_)))
  refine AZ (BX (C rfl rfl (AX [(0, _), (3, _)] rfl ?_)))
  refine AZ (AZ (BX (C rfl rfl (WS.opV (.bool true) rfl rfl rfl (AX [(0, _), (3, _), (7, _)] rfl ?_)))))
  refine WC.condT rfl (AZ (BX (C rfl rfl (C rfl rfl (C rfl rfl (C rfl (op_ld (W.sub _ _ hp) rfl rfl) (C rfl (op_lenVS hO rfl) (C rfl rfl (AX [(3, _), (11, _), (12, _), (13, _)] rfl ?_)))))))))
  refine WC.block ?_
  obtain ⟨L1, eL3, M2⟩ := Mem.name1 ((W.bare).nils)
  refine WC.loop (σ := Value × Seg × Nat) (fun ((V_, S_, i)) => [(3, V_), (11, (.slice Pl gs.length nl)), (12, (.int .i64 (((gs).length : Nat) : Int))), (13, (.int .i64 ((i : Nat) : Int)))]) (fun ((V_, S_, i)) hh => Mem h hh (S_ :: L1) [] ∧ KNi.Own V_ (((lst gs).take i).map List.length) S_ ∧ i ≤ gs.length) (fun ((V_, S_, i)) => gs.length - i) (_, _, 0) rfl ⟨M2, ?_⟩ ?_
  · exact ⟨.nil, by omega⟩
  ·rintro ⟨V_, S_, i⟩ h4 ⟨M5, ⟨hO_, hi⟩⟩
   replace eL3 := eL3.symm; subst eL3
   refine WC.env [(3, _), (11, _), (12, _), (13, _)] rfl ?_
   refine AZ (BX (WS.lssN (a := i) (b := (gs).length) rfl rfl rfl (fun e14 => ?_) (fun e14 => ?_)))
   ·
    refine AX [(3, _), (11, _), (12, _), (13, _), (14, _)] rfl ?_
    refine AZ (WC.condT rfl (WC.skip (AZ (WC.block (AZ (BX ?_))))))
    obtain ⟨y15, hy15⟩ : ∃ y, (gs)[i]? = some y := ⟨_, List.getElem?_eq_getElem (show i < (gs).length by first | omega | (simp only [Y, X, D, J, U, BQ]; omega) | (simp only [Y, X, D, J, U, BQ] at *; omega))⟩
    refine WS.iaVS hO i hy15 rfl rfl rfl rfl ?_
    intro b15_ o15_ ha15
    refine C rfl (op_ldH rfl (At.ld0 (ha15.mono M5.sub) rfl)) (C rfl rfl (AX [(3, _), (5, _), (11, _), (12, _), (13, _)] rfl ?_))
    refine BX (C rfl rfl (C rfl rfl (C rfl (op_lenVS (Pg.sl (hP y15 (List.mem_of_getElem? hy15))) rfl) ?_)))
    refine WS.bsl M5 [_] rfl rfl rfl rfl ?_
    intro p6 h7 M8
    refine WS.app (l := (((lst gs).take i).map List.length)) (m := [y15.l.length]) (hO_) (M8.focus 1 rfl) (Row.Src.one (K := KNi) (m := [y15.l.length]) (M8.at 0 rfl)) rfl (by simp only [lst, List.length_map, X, J, U]; omega) (by simp only [lst, List.length_map, X, J, U]; omega) rfl rfl rfl ?_
    intro V9 S10 h11 O12 M13
    obtain ⟨P14, rfl⟩ := Row.Own.shape O12
    refine C rfl rfl (AX [(3, _), (11, _), (12, _), (13, _)] rfl ?_)
    refine BX (WS.opV (.int .i64 (((i + 1) : Nat) : Int)) rfl rfl (add_i64 (a := i) (b := 1) (by omega)) (C rfl rfl (AX [(3, _), (11, _), (12, _), (13, _)] rfl ?_)))
    refine ⟨((.slice P14 (((((lst gs).take i).map List.length) ++ [y15.l.length])).length (2 * (((((lst gs).take i).map List.length) ++ [y15.l.length])).length)), S10, i + 1), rfl, ⟨((M13.bare.focus 0 rfl).take 1), ?_⟩, ?_⟩
    · exact ⟨by rw [List.take_add_one, lst_get hy15]; simp only [Option.toList_some, List.map_append, List.map_cons, List.map_nil]; exact O12, by omega⟩
    · simp only []; omega
   ·
    refine AX [(3, _), (11, _), (12, _), (13, _), (14, _)] rfl ?_
    refine AZ (WC.condF rfl (WC.exit ?_))
    refine AZ (BX (C rfl rfl (C rfl rfl (AX [(2, _)] rfl ?_))))
    refine WC.ret (⟨[_], (res_tmp rfl res_nil), ?_⟩)
    rw [List.take_of_length_le (by simp only [lst, List.length_map]; omega)] at hO_
    exact ⟨S_, hO_, ((M5.bare.focus 0 rfl).take 1)⟩
def okTo (to : List UInt8) (x : It) : Prop := to = [] ∨ kL x.ky to
instance (to : List UInt8) (x : It) : Decidable (okTo to x) := by unfold okTo; infer_instance
def geF (F : List It) (fr : List UInt8) : List It := F.filter fun x => !decide (kL x.ky fr)
def rangeF (F : List It) (fr to : List UInt8) (most : Int) : List It := ((geF F fr).filter fun x => decide (okTo to x)).take most.toNat
theorem rng_stop {Fu out r : List It} {x : It} {to : List UInt8} {most : Int} (e : Fu = out ++ x :: r) (hs : SrtI Fu) (hok : ∀ x ∈ out, okTo to x) (hm : (out.length : Int) ≤ most ∨ out = []) (hx : most ≤ (out.length : Int) ∨ ¬ okTo to x) : (Fu.filter fun x => decide (okTo to x)).take most.toNat = out := by
  have f1 : out.filter (fun x => decide (okTo to x)) = out := filter_all fun x hx => decide_eq_true (hok x hx)
  rw [e, List.filter_append, f1]
  by_cases c : most ≤ (out.length : Int)
  · rcases hm with hm | hm
    · rw [show most.toNat = out.length by omega, List.take_left]
    · subst hm; rw [show most.toNat = 0 by simp at c; omega]; rfl
  · have hx2 := hx.resolve_left c
    have f2 : (x :: r).filter (fun x => decide (okTo to x)) = [] := filter_none fun y hy => decide_eq_false fun q => hx2 (by
      rcases List.mem_cons.1 hy with rfl | hy
      · exact q
      · rcases q with q | q
        · exact .inl q
        · refine .inr (kL_tr ?_ q)
          rw [e] at hs
          exact (srt_cons.1 (srt_app.1 hs).2.1).1 y hy)
    rw [f2, List.append_nil, List.take_of_length_le (by omega)]
theorem rng_end {Fu out : List It} {to : List UInt8} {most : Int} (e : Fu = out) (hok : ∀ x ∈ out, okTo to x) (hm : (out.length : Int) ≤ most ∨ out = []) : (Fu.filter fun x => decide (okTo to x)).take most.toNat = out := by
  subst e
  rw [filter_all fun x hx => decide_eq_true (hok x hx)]
  rcases hm with hm | hm
  · rw [List.take_of_length_le (by omega)]
  · rw [hm]; simp
theorem geF_len {F : List It} {key : List UInt8} : (geF F key).length ≤ F.length := List.length_filter_le ..
def rest (gs : List Pg) (i a : Nat) : List It := ((lst gs).drop i).flatten.drop a
theorem rest_at {gs : List Pg} {i a : Nat} {g : Pg} (hg : gs[i]? = some g) (ha : a ≤ g.l.length) : rest gs i a = g.l.drop a ++ rest gs (i + 1) 0 := by
  unfold rest
  obtain ⟨hi, e⟩ := List.getElem?_eq_some_iff.1 (lst_get hg)
  rw [← List.getElem_cons_drop hi, e, List.flatten_cons, List.drop_append_of_le_length ha, List.drop_zero]
theorem rest_end {gs : List Pg} {i a : Nat} (h : gs.length ≤ i) : rest gs i a = [] := by
  unfold rest
  have q : (lst gs).drop i = [] := List.drop_of_length_le (by simp only [lst, List.length_map]; omega)
  rw [q]; simp
theorem placed_rest {gs : List Pg} {key : List UInt8} {pg a : Nat} {b : Bool} (hI : Inv (lst gs)) (hp : Placed gs key pg a b) : rest gs pg a = geF (lst gs).flatten key ∧ ∀ g, gs[pg]? = some g → a ≤ g.l.length := by
  by_cases hne : gs = []
  · subst hne; exact ⟨by simp [rest, lst, geF], fun g hg => by simp at hg⟩
  · obtain ⟨g1, y, g2, e, hl, hh, hc, hb, hs, h1, h2⟩ := placed_split hI hne hp
    obtain ⟨c1, c2⟩ := cut_parts hc
    have hy : gs[pg]? = some y := by rw [e, ← hl]; simp
    refine ⟨?_, fun g hg => by rw [hy] at hg; cases hg; exact hc.1⟩
    rw [rest_at hy hc.1]
    have hr : rest gs (pg + 1) 0 = (lst g2).flatten := by
      unfold rest; rw [e, List.drop_zero]; congr 1
      have : lst (g1 ++ y :: g2) = lst g1 ++ y.l :: lst g2 := by simp [lst]
      rw [this]; exact (take_mid (by rw [← hl]; simp [lst])).2
    have hF : (lst gs).flatten = (lst g1).flatten ++ (y.l.take a ++ (y.l.drop a ++ (lst g2).flatten)) := by rw [e]; simp [lst, ← List.append_assoc (y.l.take a)]
    rw [hr, hF]; unfold geF
    rw [List.filter_append, List.filter_append, List.filter_append, filter_none (fun x hx => by simpa using h1 x hx), filter_none (fun x hx => by simpa using c1 x hx), filter_all (fun x hx => by simpa using c2 x hx), filter_all (fun x hx => by simpa using kL_asym (h2 x hx))]
    simp
set_option maxRecDepth 8000 in
theorem Range_ran (W : Mem h h [] []) {p n : Nat} {gs : List Pg} {fr to : List UInt8} {most : Int} (G : PgR h p gs n) (hI : Inv (lst gs)) (hok : POK gs) (hlen : gs.length ≤ 1000000) (hn : (lst gs).flatten.length ≤ 1000000) :
    Cll tab0 12 [.pointer (some ⟨p, 0, none⟩), .string (bs fr), .string (bs to), .int .i64 most] h (fun v h2 => ∃ S, KIt.Own v (rangeF (lst gs).flatten fr to most) S ∧ Mem h h2 [S] []) := by
  have G0 := G
  obtain ⟨⟨Vo, hp, hO⟩, hP⟩ := G0
  obtain ⟨Pl, nl, rfl⟩ := hO.shape
  refine Cll.code rfl rfl ?_
  refine WC.env [(0, _), (1, _), (2, _), (3, _)] rfl ?_
  refine AZ (BX (C rfl rfl (AX [(0, _), (1, _), (2, _), (3, _)] rfl ?_)))
  refine AZ (BX (C rfl rfl (C rfl rfl ?_)))
  refine WS.call rfl rfl rfl (place_ran W.here (key := fr) (G.mono W.sub) hI hlen) ?_
  rintro _ h1 ⟨pg18, at18, b18, rfl, hpl18, N2⟩
  have M3 := W.trans N2
  refine C rfl rfl (C rfl rfl (C rfl rfl (C rfl rfl (C rfl rfl (C rfl rfl (C rfl rfl (AX [(0, _), (2, _), (3, _), (9, _), (10, _)] rfl ?_)))))))
  refine AZ (BX (C rfl rfl (AX [(0, _), (2, _), (3, _), (9, _), (10, _), (12, _)] rfl ?_)))
  refine AZ (WC.block ?_)
  have hplr := placed_rest hI hpl18
  have hFs : SrtI (rest gs pg18 at18) := by rw [hplr.1]; exact srt_filter hI.2 _
  obtain ⟨L4, eL6, M5⟩ := Mem.name1 ((M3.bare).nils)
  refine WC.loop (σ := Value × Seg × List It × Nat × Nat) (fun ((V_, S_, out, i, a)) => [(0, (.pointer (some ⟨p, 0, none⟩))), (2, (.string (bs to))), (3, (.int .i64 most)), (9, (.int .i64 ((i : Nat) : Int))), (10, (.int .i64 ((a : Nat) : Int))), (12, V_)]) (fun ((V_, S_, out, i, a)) hh => Mem h hh (S_ :: L4) [] ∧ KIt.Own V_ out S_ ∧ rest gs pg18 at18 = out ++ rest gs i a ∧ (∀ x ∈ out, okTo to x) ∧ ((out.length : Int) ≤ most ∨ out = []) ∧ (∀ g, gs[i]? = some g → a ≤ g.l.length) ∧ i ≤ gs.length) (fun ((V_, S_, out, i, a)) => gs.length - i) (_, _, [], pg18, at18) rfl ⟨M5, ?_⟩ ?_
  · exact ⟨.nil, rfl, fun x hx => absurd hx (by simp), .inr rfl, hplr.2, by rcases hpl18 with ⟨_, q, _⟩ | ⟨_, g, hg, _⟩; (omega); (have := (List.getElem?_eq_some_iff.1 hg).1; omega)⟩
  ·rintro ⟨V_, S_, out, i, a⟩ h7 ⟨M8, ⟨hO_, hFu, hok2, hm, hA, hi⟩⟩
   replace eL6 := eL6.symm; subst eL6
   refine WC.env [(0, _), (2, _), (3, _), (9, _), (10, _), (12, _)] rfl ?_
   refine AZ (AZ (BX (C rfl rfl (WS.opV (.bool true) rfl rfl rfl (C rfl rfl (C rfl rfl (C rfl rfl (C rfl rfl (C rfl rfl (C rfl (op_ld (M8.sub _ _ hp) rfl rfl) (C rfl (op_lenVS hO rfl) ?_)))))))))))
   refine WS.lssN (a := i) (b := (gs).length) rfl rfl rfl (fun e31 => ?_) (fun e31 => ?_)
   ·
    refine C rfl rfl (AX [(0, _), (2, _), (3, _), (9, _), (10, _), (12, _), (32, _)] rfl ?_)
    refine WC.condT rfl (WC.skip (AZ (WC.block (AZ (AZ (BX (C rfl rfl (C rfl rfl (C rfl rfl (C rfl (op_ld (M8.sub _ _ hp) rfl rfl) (C rfl rfl ?_)))))))))))
    obtain ⟨y40, hy40⟩ : ∃ y, (gs)[i]? = some y := ⟨_, List.getElem?_eq_getElem (show i < (gs).length by first | omega | (simp only [Y, X, D, J, U, BQ]; omega) | (simp only [Y, X, D, J, U, BQ] at *; omega))⟩
    refine WS.iaVS hO i hy40 rfl rfl rfl rfl ?_
    intro b40_ o40_ ha40
    refine C rfl (op_ldH rfl (At.ld0 (ha40.mono M8.sub) rfl)) (C rfl rfl ?_)
    have ha40 := hA _ hy40
    have hd40 : (y40.l.drop a).length ≤ 1000000 := by have := page_small hI (mem_lst (List.mem_of_getElem? hy40)); rw [Y]; omega
    refine C rfl (op_slPg a (M8.sub _ _ (hP y40 (List.mem_of_getElem? hy40))) (hok y40 (List.mem_of_getElem? hy40)) ha40 rfl rfl) (C rfl (op_lenVS (slPg a _ (hP y40 (List.mem_of_getElem? hy40)) ha40) rfl) (C rfl rfl (AX [(0, _), (2, _), (3, _), (9, _), (12, _), (43, _), (44, _), (45, _)] rfl ?_)))
    refine WC.block ?_
    obtain ⟨L9, eL11, M10⟩ := Mem.name1 (M8.bare.focus 0 rfl)
    refine WC.loop (σ := Value × Seg × List It × Nat) (fun ((V2, S2, out2, k)) => [(0, (.pointer (some ⟨p, 0, none⟩))), (2, (.string (bs to))), (3, (.int .i64 most)), (9, (.int .i64 ((i : Nat) : Int))), (12, V2), (43, (.slice (some ⟨y40.b, 0 + a * 4, none⟩) (y40.l.drop a).length (2 * (y40.c / 2 - a) + y40.c % 2))), (44, (.int .i64 ((((y40.l.drop a)).length : Nat) : Int))), (45, (.int .i64 ((k : Nat) : Int)))]) (fun ((V2, S2, out2, k)) hh => Mem h hh (S2 :: L9) [] ∧ KIt.Own V2 out2 S2 ∧ out2 = out ++ (y40.l.drop a).take k ∧ (∀ x ∈ out2, okTo to x) ∧ ((out2.length : Int) ≤ most ∨ out2 = []) ∧ k ≤ (y40.l.drop a).length) (fun ((V2, S2, out2, k)) => (y40.l.drop a).length - k) (_, _, out, 0) rfl ⟨M10, ?_⟩ ?_
    · exact ⟨hO_, by simp, hok2, hm, by omega⟩
    ·rintro ⟨V2, S2, out2, k⟩ h12 ⟨M13, ⟨hO2, hE2, hok3, hm2, hk⟩⟩
     replace eL11 := eL11.symm; subst eL11
     refine WC.env [(0, _), (2, _), (3, _), (9, _), (12, _), (43, _), (44, _), (45, _)] rfl ?_
     refine AZ (BX (WS.lssN (a := k) (b := ((y40.l.drop a)).length) rfl rfl rfl (fun e46 => ?_) (fun e46 => ?_)))
     ·
      refine AX [(0, _), (2, _), (3, _), (9, _), (12, _), (43, _), (44, _), (45, _), (46, _)] rfl ?_
      refine AZ (WC.condT rfl (WC.skip (AZ (WC.block (AZ (BX ?_))))))
      obtain ⟨y47, hy47⟩ : ∃ y, ((y40.l.drop a))[k]? = some y := ⟨_, List.getElem?_eq_getElem (show k < ((y40.l.drop a)).length by first | omega | (simp only [Y, X, D, J, U, BQ]; omega) | (simp only [Y, X, D, J, U, BQ] at *; omega))⟩
      refine WS.iaVS (slPg a _ (hP y40 (List.mem_of_getElem? hy40)) ha40) k hy47 rfl rfl rfl rfl ?_
      intro b47_ o47_ ha47
      refine C rfl (op_ldAt rfl (ha47.mono M13.sub) rfl) ?_
      refine WS.new M13 rfl ?_
      intro p14 h15 M16
      refine WS.st1 (M16.focus 0 rfl) [_, _, _, _] [_, _, _, _] rfl rfl rfl rfl rfl (AQ rfl) (AQ rfl) rfl rfl ?_
      intro h17 M18
      replace M18 : Mem _ _ ([(p14, _)] :: S2 :: []) _ := M18
      refine AX [(0, _), (2, _), (3, _), (9, _), (12, _), (14, _), (43, _), (44, _), (45, _)] rfl ?_
      refine AZ (AZ (BX (C rfl rfl (C rfl (op_lenVO hO2 rfl) (C rfl rfl ?_)))))
      refine WS.geq (a := (((out2).length : Nat) : Int)) (b := most) rfl rfl rfl (fun e52 => ?_) (fun e52 => ?_)
      ·
       refine C rfl rfl (WS.off rfl (WS.off rfl (WS.off rfl (WS.off rfl (WS.off rfl (WS.off rfl (WS.off rfl (WS.off rfl (C rfl rfl ?_)))))))))
       refine AX [(0, _), (2, _), (3, _), (9, _), (12, _), (14, _), (43, _), (44, _), (45, _), (62, _)] rfl ?_
       refine WC.condT rfl (AZ (BX (C rfl rfl (C rfl rfl (AX [(8, _)] rfl ?_)))))
       refine WC.ret (⟨[_], (res_tmp rfl res_nil), ?_⟩)
       have hs47 : rest gs pg18 at18 = out2 ++ y47 :: ((y40.l.drop a).drop (k + 1) ++ rest gs (i + 1) 0) := by rw [hFu, rest_at hy40 ha40, hE2, List.append_assoc]; congr 1; rw [← List.cons_append, ← (List.getElem?_eq_some_iff.1 hy47).2, List.getElem_cons_drop, ← List.append_assoc, List.take_append_drop]
       have q9 := rng_stop (to := to) (most := most) hs47 hFs hok3 hm2 (by first | exact Or.inl (by assumption) | exact Or.inr (fun q => by rcases q with q | q <;> contradiction))
       rw [hplr.1] at q9
       rw [← q9] at hO2
       exact ⟨S2, hO2, ((M18.bare.focus 1 rfl).take 1)⟩
      ·
       refine C rfl rfl (C rfl rfl ?_)
       refine WS.sneq (l := to) (m := []) rfl rfl rfl (fun e55 => ?_) (fun e55 => ?_)
       ·
        refine C rfl rfl (C rfl rfl (C rfl (op_ld (M18.at 0 rfl) rfl rfl) (C rfl rfl ?_)))
        refine WS.sgeq (l := y47.ky) (m := to) rfl rfl rfl (fun e60 => ?_) (fun e60 => ?_)
        ·
         refine C rfl rfl (C rfl rfl (AX [(0, _), (2, _), (3, _), (9, _), (12, _), (14, _), (43, _), (44, _), (45, _), (62, _)] rfl ?_))
         refine WC.condT rfl (AZ (BX (C rfl rfl (C rfl rfl (AX [(8, _)] rfl ?_)))))
         refine WC.ret (⟨[_], (res_tmp rfl res_nil), ?_⟩)
         have hs47 : rest gs pg18 at18 = out2 ++ y47 :: ((y40.l.drop a).drop (k + 1) ++ rest gs (i + 1) 0) := by rw [hFu, rest_at hy40 ha40, hE2, List.append_assoc]; congr 1; rw [← List.cons_append, ← (List.getElem?_eq_some_iff.1 hy47).2, List.getElem_cons_drop, ← List.append_assoc, List.take_append_drop]
         have q9 := rng_stop (to := to) (most := most) hs47 hFs hok3 hm2 (by first | exact Or.inl (by assumption) | exact Or.inr (fun q => by rcases q with q | q <;> contradiction))
         rw [hplr.1] at q9
         rw [← q9] at hO2
         exact ⟨S2, hO2, ((M18.bare.focus 1 rfl).take 1)⟩
        ·
         refine C rfl rfl (C rfl rfl (AX [(0, _), (2, _), (3, _), (9, _), (12, _), (14, _), (43, _), (44, _), (45, _), (62, _)] rfl ?_))
         refine WC.condF rfl (WC.skip (BX (C rfl rfl (C rfl (op_lds [_, _, _, _] (M18.at 0 rfl) rfl (AQ rfl) rfl) ?_))))
         refine WS.bsl M18 [_, _, _, _] rfl rfl rfl rfl ?_
         intro p19 h20 M21
         refine WS.app (l := out2) (m := [y47]) (hO2) (M21.focus 2 rfl) (Row.Src.one (K := KIt) (m := [y47]) (M21.at 0 rfl)) rfl (by have h9 := congrArg List.length (hplr.1.symm.trans hFu); have h0 := geF_len (F := (lst gs).flatten) (key := fr); have h7 := congrArg List.length hE2; have h6 := congrArg List.length (rest_at hy40 ha40); simp only [D, X, Y, J, U] at h9 h7 h6 ⊢; omega) (by have h9 := congrArg List.length (hplr.1.symm.trans hFu); have h0 := geF_len (F := (lst gs).flatten) (key := fr); have h7 := congrArg List.length hE2; have h6 := congrArg List.length (rest_at hy40 ha40); simp only [D, X, Y, J, U] at h9 h7 h6 ⊢; omega) rfl rfl rfl ?_
         intro V22 S23 h24 O25 M26
         obtain ⟨P27, rfl⟩ := Row.Own.shape O25
         refine C rfl rfl (AX [(0, _), (2, _), (3, _), (9, _), (12, _), (43, _), (44, _), (45, _)] rfl ?_)
         refine BX (WS.opV (.int .i64 (((k + 1) : Nat) : Int)) rfl rfl (add_i64 (a := k) (b := 1) (by omega)) (C rfl rfl (AX [(0, _), (2, _), (3, _), (9, _), (12, _), (43, _), (44, _), (45, _)] rfl ?_)))
         refine ⟨((.slice P27 ((out2 ++ [y47])).length (2 * ((out2 ++ [y47])).length)), S23, out2 ++ [y47], k + 1), rfl, ⟨((M26.bare.focus 0 rfl).take 1), ?_⟩, ?_⟩
         · exact ⟨O25, by rw [hE2, List.append_assoc, List.take_add_one, hy47]; rfl, fun x hx => by rcases List.mem_append.1 hx with q | q; (exact hok3 x q); (rw [List.mem_singleton] at q; subst q; first | exact Or.inl (by assumption) | exact Or.inr (by assumption)), .inl (by simp only [D, J, U]; omega), by omega⟩
         · simp only []; omega
       ·
        refine C rfl rfl (WS.off rfl (WS.off rfl (WS.off rfl (WS.off rfl (C rfl rfl (C rfl rfl (AX [(0, _), (2, _), (3, _), (9, _), (12, _), (14, _), (43, _), (44, _), (45, _), (62, _)] rfl ?_)))))))
        refine WC.condF rfl (WC.skip (BX (C rfl rfl (C rfl (op_lds [_, _, _, _] (M18.at 0 rfl) rfl (AQ rfl) rfl) ?_))))
        refine WS.bsl M18 [_, _, _, _] rfl rfl rfl rfl ?_
        intro p28 h29 M30
        refine WS.app (l := out2) (m := [y47]) (hO2) (M30.focus 2 rfl) (Row.Src.one (K := KIt) (m := [y47]) (M30.at 0 rfl)) rfl (by have h9 := congrArg List.length (hplr.1.symm.trans hFu); have h0 := geF_len (F := (lst gs).flatten) (key := fr); have h7 := congrArg List.length hE2; have h6 := congrArg List.length (rest_at hy40 ha40); simp only [D, X, Y, J, U] at h9 h7 h6 ⊢; omega) (by have h9 := congrArg List.length (hplr.1.symm.trans hFu); have h0 := geF_len (F := (lst gs).flatten) (key := fr); have h7 := congrArg List.length hE2; have h6 := congrArg List.length (rest_at hy40 ha40); simp only [D, X, Y, J, U] at h9 h7 h6 ⊢; omega) rfl rfl rfl ?_
        intro V31 S32 h33 O34 M35
        obtain ⟨P36, rfl⟩ := Row.Own.shape O34
        refine C rfl rfl (AX [(0, _), (2, _), (3, _), (9, _), (12, _), (43, _), (44, _), (45, _)] rfl ?_)
        refine BX (WS.opV (.int .i64 (((k + 1) : Nat) : Int)) rfl rfl (add_i64 (a := k) (b := 1) (by omega)) (C rfl rfl (AX [(0, _), (2, _), (3, _), (9, _), (12, _), (43, _), (44, _), (45, _)] rfl ?_)))
        refine ⟨((.slice P36 ((out2 ++ [y47])).length (2 * ((out2 ++ [y47])).length)), S32, out2 ++ [y47], k + 1), rfl, ⟨((M35.bare.focus 0 rfl).take 1), ?_⟩, ?_⟩
        · exact ⟨O34, by rw [hE2, List.append_assoc, List.take_add_one, hy47]; rfl, fun x hx => by rcases List.mem_append.1 hx with q | q; (exact hok3 x q); (rw [List.mem_singleton] at q; subst q; first | exact Or.inl (by assumption) | exact Or.inr (by assumption)), .inl (by simp only [D, J, U]; omega), by omega⟩
        · simp only []; omega
     ·
      refine AX [(0, _), (2, _), (3, _), (9, _), (12, _), (43, _), (44, _), (45, _), (46, _)] rfl ?_
      refine AZ (WC.condF rfl (WC.exit ?_))
      refine BX (C rfl rfl (AX [(0, _), (2, _), (3, _), (9, _), (10, _), (12, _)] rfl ?_))
      refine BX (C rfl rfl (WS.opV (.int .i64 (((i + 1) : Nat) : Int)) rfl rfl (add_i64 (a := i) (b := 1) (by omega)) (C rfl rfl (AX [(0, _), (2, _), (3, _), (9, _), (10, _), (12, _)] rfl ?_))))
      refine ⟨(V2, S2, out2, i + 1, 0), rfl, ⟨((M13.bare.focus 0 rfl).take 1), ?_⟩, ?_⟩
      · exact ⟨hO2, by rw [hFu, rest_at hy40 ha40, hE2, List.take_of_length_le (by omega), List.append_assoc], hok3, hm2, fun g _ => Nat.zero_le _, by omega⟩
      · simp only []; omega
   ·
    refine C rfl rfl (AX [(0, _), (2, _), (3, _), (9, _), (10, _), (12, _), (32, _)] rfl ?_)
    refine WC.condF rfl (WC.exit ?_)
    refine AZ (BX (C rfl rfl (C rfl rfl (AX [(8, _)] rfl ?_))))
    refine WC.ret (⟨[_], (res_tmp rfl res_nil), ?_⟩)
    have q9 := rng_end (Fu := rest gs pg18 at18) (to := to) (most := most) (by rw [hFu, rest_end (by omega), List.append_nil]) hok2 hm
    rw [hplr.1] at q9
    rw [← q9] at hO_
    exact ⟨S_, hO_, ((M8.bare.focus 0 rfl).take 1)⟩
end Go.Proofs.Ytfnhhelbegnopaa.Wt
namespace Go.Proofs.Ytfnhhelbegnopaa.Wt
open Go Go.Proofs.Ytfnhhelbegnopaa.Am Go.Proofs.Ytfnhhelbegnopaa.IrAll
set_option linter.unusedVariables false
set_option linter.unusedSimpArgs false
variable {h base : H} {L : List Seg} {R : List Nat}
theorem New_ran (W : Mem h h [] []) : Cll tab0 8 [] h (fun v h2 => ∃ p S, PgSt p [] S ∧ v = .pointer (some ⟨p, 0, none⟩) ∧ Mem h h2 [S] []) := by
  refine Cll.code rfl rfl ?_
  refine WC.env [] rfl ?_
  refine WC.seq (WC.run (WS.op rfl rfl (WS.nil [] rfl ?_)))
  refine WC.seq (WC.run (WS.opV (.agg #[(.slice none 0 0), (.int .i64 (0 : Int))]) rfl rfl rfl ?_))
  refine WS.box W [_, _] rfl rfl rfl rfl ?_
  intro p1 h2 M3
  refine WS.op rfl rfl (WS.nil [(0, _)] rfl ?_)
  refine WC.ret (⟨[_], (res_tmp rfl res_nil), ?_⟩)
  exact ⟨p1, _, ⟨_, [], [], rfl, .nil, (fun g hg => absurd hg (by simp)), rfl⟩, rfl, ((M3.bare.focus 0 rfl).take 1)⟩
theorem WS.appNew {α : Type} {K : Row α} {e : Env} {m : List α} {y : Value} {tab : Nat → Option FD} {rb : Nat} {d : Option Nat} {g : Option (Nat × Bool)} {ss : List Step} {q : Env → H → Prop} {b ee : Nat} {x z : Operand} {bytes es : Nat} (M : Mem base h ([(b, ⟨[], ee, false⟩)] :: L) R) (A : K.Src h y m) (hm : m ≠ []) (hes : es = K.n) (hb : m.length * bytes ≤ 140737488355328) (hn : m.length ≤ 1099511627776) (hg : gd e g = some true) (hx : ev e x = some (.slice (some ⟨b, 0, none⟩) 0 1)) (hy : ev e z = some y)
    (k : ∀ r h1, Mem base h1 ([(r, ⟨K.flat m, K.n, false⟩)] :: [(b, ⟨[], ee, false⟩)] :: L) R → WS tab rb ss (put e d (.slice (some ⟨r, 0, none⟩) m.length (2 * m.length))) h1 q) : WS tab rb (.op d g (.app es bytes x z) :: ss) e h q := by
  subst hes
  obtain ⟨a1, a2⟩ := A
  have hall := plain1_one (K.flat_plain m)
  have hml : 0 < m.length := List.length_pos_iff.2 hm
  refine .op hg (op_app hx hy (r := (.slice (some ⟨h.next, 0, none⟩) m.length (2 * m.length), h.alloc ⟨K.flat m, K.n, false⟩)) ?_) (k _ _ (M.alloc _))
  simp only [appE, a1, a2, Nat.zero_add, Nat.zero_mul]
  rw [if_neg (show ¬ m.length ≤ 1 / 2 by omega), if_pos ⟨hb, hn, hall⟩]
  show (match h.lds ⟨b, 0, none⟩ 0 with | none => none | some old => _) = _
  have h0 : h.lds ⟨b, 0, none⟩ 0 = some [] := rfl
  rw [h0]; rfl
theorem clone_ran (W : Mem h h [] []) {V : Value} {l : List It} (A : KIt.Sl h V l) (hne : l ≠ []) (hl : l.length ≤ 1000000) : Cll tab0 30 [V] h (fun v h2 => ∃ q, v = .slice (some ⟨q, 0, none⟩) l.length (2 * l.length) ∧ Mem h h2 [[(q, ⟨KIt.flat l, 4, false⟩)]] []) := by
  obtain ⟨b, o, c, rfl, ha⟩ : ∃ b o c, V = .slice (some ⟨b, o, none⟩) l.length c ∧ At h b o (KIt.flat l) := by
    cases A with
    | nil => exact absurd rfl hne
    | emp a c => exact absurd rfl hne
    | row b o c l ha => exact ⟨b, o, c, rfl, ha⟩
  refine Cll.code rfl rfl ?_
  refine WC.env [(0, _)] rfl ?_
  refine WC.seq (WC.run (WS.op rfl rfl (WS.nil [(0, _)] rfl ?_)))
  refine WC.seq (WC.seq (WC.run (WS.op rfl rfl (WS.opV (.bool false) rfl rfl rfl (WS.nil [(0, _), (4, _)] rfl ?_)))))
  refine WC.condF rfl (WC.skip (WC.seq (WC.run (WS.bsl W [] rfl rfl rfl rfl ?_))))
  intro p1 h2 M3
  refine WS.op rfl rfl ?_
  refine WS.appNew (K := KIt) (m := l) (M3.focus 0 rfl) (Row.Src.sl (A.mono M3.sub)) hne rfl (by omega) (by omega) rfl rfl rfl ?_
  intro r_ h4 M5
  replace M5 : Mem _ _ ([(r_, _)] :: [(p1, _)] :: []) _ := M5
  refine WS.op rfl rfl (WS.nil [(2, _)] rfl ?_)
  refine WC.ret (⟨[_], (res_tmp rfl res_nil), ?_⟩)
  exact ⟨_, rfl, ((M5.bare.focus 0 rfl).take 1)⟩
end Go.Proofs.Ytfnhhelbegnopaa.Wt
namespace Go.Proofs.Ytfnhhelbegnopaa.Wt
open Go Go.Proofs.Ytfnhhelbegnopaa.Am Go.Proofs.Ytfnhhelbegnopaa.IrAll
open Nat renaming le_of_ble_eq_true → C
open Go.Proofs.Ytfnhhelbegnopaa.Am.WS renaming op → D
set_option linter.unusedVariables false
set_option linter.unusedSimpArgs false
variable {h base : H} {L : List Seg} {R : List Nat}
theorem pg_all {g1 g2 : List Pg} {y : Pg} (hy : h.get y.b = some ⟨KIt.flat y.l, 4, false⟩) (ho : ∀ p ∈ pseg g1 ++ pseg g2, h.get p.1 = some p.2) : ∀ g ∈ g1 ++ y :: g2, h.get g.b = some ⟨KIt.flat g.l, 4, false⟩ := fun g hg => by
  rcases List.mem_append.1 hg with q | q
  · exact ho (g.b, ⟨KIt.flat g.l, 4, false⟩) (List.mem_append_left _ (List.mem_map.2 ⟨g, q, rfl⟩))
  · rcases List.mem_cons.1 q with rfl | q
    · exact hy
    · exact ho (g.b, ⟨KIt.flat g.l, 4, false⟩) (List.mem_append_right _ (List.mem_map.2 ⟨g, q, rfl⟩))
theorem take_mid1 {α : Type} {A B : List α} {g : α} : (A ++ g :: B).take (A.length + 1) = A ++ [g] := by
  rw [show A ++ g :: B = (A ++ [g]) ++ B by simp, List.take_left' (by simp)]
theorem lst_mid (g1 g2 : List Pg) (y : Pg) : lst (g1 ++ y :: g2) = lst g1 ++ y.l :: lst g2 := by simp [lst]
theorem lst_len (g1 : List Pg) : (lst g1).length = g1.length := by simp [lst]
theorem placed_at {g1 g2 : List Pg} {y : Pg} {key : List UInt8} {pg a : Nat} {b : Bool} (hh : g1.length = home key (lst (g1 ++ y :: g2))) (hp : Placed (g1 ++ y :: g2) key pg a b) : pg = g1.length ∧ IsCut key y.l a ∧ (b = true ↔ ∃ z, y.l[a]? = some z ∧ z.ky = key) := by
  rcases hp with ⟨q, _⟩ | ⟨q, g, hg, hc, hb⟩
  · simp at q
  · rw [← hh] at q
    subst q
    have : (g1 ++ y :: g2)[g1.length]? = some y := by simp
    rw [this] at hg; cases hg
    exact ⟨rfl, hc, hb⟩
theorem pages_le {L : List (List It)} (h : Inv L) : L.length ≤ L.flatten.length := by
  have : ∀ L : List (List It), (∀ g ∈ L, g ≠ []) → L.length ≤ L.flatten.length := by
    intro L
    induction L with
    | nil => intro _; simp
    | cons g L ih =>
      intro hg
      have h1 := ih fun x hx => hg x (List.mem_cons_of_mem _ hx)
      have h2 := List.length_pos_iff.2 (hg g (List.mem_cons_self ..))
      simp only [List.length_cons, List.flatten_cons, List.length_append]; omega
  exact this L fun g hg => (h.1 g hg).1
theorem putL_mid {g1 g2 : List Pg} {y : Pg} {it : It} (hh : g1.length = home it.ky (lst (g1 ++ y :: g2))) : putL (lst (g1 ++ y :: g2)) it = if (putF y.l it).length ≤ 8 then lst g1 ++ putF y.l it :: lst g2 else lst g1 ++ (putF y.l it).take 5 :: (putF y.l it).drop 5 :: lst g2 := by
  unfold putL
  rw [← hh, lst_mid, if_neg (by simp), getD_mid (lst_len g1), set_mid (lst_len g1), (take_mid (lst_len g1)).1, (take_mid (lst_len g1)).2]
theorem pok_mid {g1 g2 : List Pg} {y : Pg} (h : POK (g1 ++ y :: g2)) {m : List Pg} (hm : ∀ g ∈ m, g.c / 2 = g.l.length) : POK (g1 ++ m ++ g2) := fun g hg => by
  rcases List.mem_append.1 hg with q | q
  · rcases List.mem_append.1 q with q | q
    · exact h g (List.mem_append_left _ q)
    · exact hm g q
  · exact h g (List.mem_append_right _ (List.mem_cons_of_mem _ q))
theorem Mem.joinPg {S T : Seg} {g1 g2 : List Pg} {y : Pg} (M : Mem base h (S :: T :: [(y.b, ⟨KIt.flat y.l, 4, false⟩)] :: (pseg g1 ++ pseg g2) :: L) R) : Mem base h (S :: T :: pseg (g1 ++ y :: g2) :: L) R := by
  refine M.perm ?_
  simp only [List.flatten_cons, pseg, List.map_append, List.map_cons, List.cons_append, List.nil_append, List.append_assoc]
  refine List.Perm.append_left _ (List.Perm.append_left _ ?_)
  exact List.perm_middle
theorem Mem.joinPg2 {S T : Seg} {g1 g2 : List Pg} {y z : Pg} (M : Mem base h (S :: T :: [(y.b, ⟨KIt.flat y.l, 4, false⟩)] :: [(z.b, ⟨KIt.flat z.l, 4, false⟩)] :: (pseg g1 ++ pseg g2) :: L) R) : Mem base h (S :: T :: pseg (g1 ++ y :: z :: g2) :: L) R := by
  have := (Mem.joinPg (y := z) (g1 := g1) (g2 := g2) (S := S ++ T) (T := [(y.b, ⟨KIt.flat y.l, 4, false⟩)]) (L := L) (M.perm (by simp)))
  refine this.perm ?_
  simp only [List.flatten_cons, pseg, List.map_append, List.map_cons, List.cons_append, List.nil_append, List.append_assoc]
  refine List.Perm.append_left _ (List.Perm.append_left _ ?_)
  exact List.perm_middle
theorem Mem.splitPg {S T : Seg} {g1 g2 : List Pg} {y : Pg} (M : Mem base h (S :: T :: pseg (g1 ++ y :: g2) :: L) R) : Mem base h (S :: T :: [(y.b, ⟨KIt.flat y.l, 4, false⟩)] :: (pseg g1 ++ pseg g2) :: L) R := by
  refine M.perm ?_
  simp only [List.flatten_cons, pseg, List.map_append, List.map_cons, List.cons_append, List.nil_append, List.append_assoc]
  refine List.Perm.append_left _ (List.Perm.append_left _ ?_)
  exact List.perm_middle.symm
def After (p : Nat) (base h2 : H) (L : List Seg) (LL : List (List It)) : Prop := ∃ Vo So gs, Outer Vo gs So ∧ POK gs ∧ lst gs = LL ∧ Mem base h2 ([(p, ⟨[Vo, .int .i64 ((LL.flatten.length : Nat) : Int)], 0, false⟩)] :: So :: pseg gs :: L) []
theorem After.mk' {p po c n : Nat} {gs : List Pg} {V : Value} {cs : List Value} {LL : List (List It)} (hV : V = .slice (some ⟨po, 0, none⟩) gs.length c) (hc : c / 2 = gs.length) (hok : POK gs) (hl : lst gs = LL) (hn : n = (lst gs).flatten.length) (hcs : cs = KPg.flat gs) (M : Mem base h ([(p, ⟨[V, .int .i64 (n : Int)], 0, false⟩)] :: [(po, ⟨cs, 1, false⟩)] :: pseg gs :: L) []) : After p base h L LL := by
  subst hV hcs hn hl
  exact ⟨_, _, gs, .row po gs c hc, hok, rfl, M⟩
theorem flat_val {g1 g2 : List Pg} {y z : Pg} (h : y.val = z.val) : KPg.flat (g1 ++ y :: g2) = KPg.flat (g1 ++ z :: g2) := by
  rw [KPg.flat_append, KPg.flat_append, KPg.flat_cons, KPg.flat_cons]
  show _ ++ ([y.val] ++ _) = _ ++ ([z.val] ++ _)
  rw [h]
theorem sl_take {α : Type} {K : Row α} {p c : Nat} {l : List α} {es : Nat} {ro : Bool} (i : Nat) (hb : h.get p = some ⟨K.flat l, es, ro⟩) (hi : i ≤ l.length) : K.Sl h (.slice (some ⟨p, 0, none⟩) (l.take i).length c) (l.take i) := by
  refine .row p 0 c (l.take i) ⟨_, hb, ?_, ?_⟩
  · rw [K.flat_length, K.flat_length, List.length_take, Nat.min_eq_left hi, Nat.zero_add]; exact Nat.mul_le_mul_right _ hi
  · have h1 : K.flat l = K.flat (l.take i) ++ K.flat (l.drop i) := by rw [← K.flat_append, List.take_append_drop]
    simp only [List.drop_zero]; rw [h1, List.take_left]
set_option maxRecDepth 8000 in
set_option maxHeartbeats 1000000 in
theorem put1_ran {p po co n : Nat} {g1 g2 : List Pg} {y : Pg} {key : List UInt8} {v : Vl} (M : Mem base h ([(p, ⟨[.slice (some ⟨po, 0, none⟩) (g1 ++ y :: g2).length co, .int .i64 (n : Int)], 0, false⟩)] :: [(po, ⟨KPg.flat (g1 ++ y :: g2), 1, false⟩)] :: [(y.b, ⟨KIt.flat y.l, 4, false⟩)] :: (pseg g1 ++ pseg g2) :: L) []) (hI : Inv (lst (g1 ++ y :: g2))) (hco : co / 2 = (g1 ++ y :: g2).length) (hok : POK (g1 ++ y :: g2)) (hh : g1.length = home key (lst (g1 ++ y :: g2))) (hn : n = (lst (g1 ++ y :: g2)).flatten.length) (hn2 : n ≤ 900000) (hA : ∀ x ∈ (lst g1).flatten, kL x.ky key) (hB : ∀ x ∈ (lst g2).flatten, kL key x.ky) :
    Cll tab0 9 [.pointer (some ⟨p, 0, none⟩), .string (bs key), .agg (Vl.cells v).toArray] h (fun w h2 => w = .tuple #[.agg (Vl.cells (getV (lst (g1 ++ y :: g2)).flatten key).1).toArray, .bool (getV (lst (g1 ++ y :: g2)).flatten key).2] ∧ After p base h2 L (putL (lst (g1 ++ y :: g2)) ⟨key, v.val, v.ver, v.lea⟩)) := by
  have hlen : (g1 ++ y :: g2).length ≤ 1000000 := by have := pages_le hI; rw [lst_len] at this; omega
  have hyl := hI.1 y.l (mem_lst (g := y) (by simp))
  have hys := inv_page hI (mem_lst (g := y) (gs := g1 ++ y :: g2) (by simp))
  have hyk : (g1 ++ y :: g2)[g1.length]? = some y := by simp
  have hyc := hok y (by simp)
  have hg1 : g1.length < (g1 ++ y :: g2).length := by simp
  have hPM := putL_mid (y := y) (g1 := g1) (g2 := g2) (it := ⟨key, v.val, v.ver, v.lea⟩) hh
  refine Cll.code rfl rfl ?_
  refine WC.env [(0, _), (1, _), (2, _)] rfl ?_
  refine WC.seq (WC.run (WS.box M [_, _, _] rfl rfl rfl rfl ?_))
  intro p1 h2 M3
  refine WS.new M3 rfl ?_
  intro p4 h5 M6
  refine D rfl rfl (WS.nil [(0, _), (1, _), (5, _), (6, _)] rfl ?_)
  refine WC.seq (WC.seq (WC.run (D rfl rfl (WS.opV (.bool false) rfl rfl rfl (WS.nil [(0, _), (1, _), (5, _), (6, _), (14, _)] rfl ?_)))))
  refine WC.condF rfl (WC.skip (WC.seq (WC.run (D rfl rfl (D rfl rfl ?_)))))
  refine WS.call rfl rfl rfl (place_ran M6.here (key := key) (gs := (g1 ++ y :: g2)) (p := p) ⟨⟨_, (M6.at 2 rfl), sl_all (M6.at 3 rfl)⟩, pg_all (M6.at 4 rfl) (Mem.owni M6 5 rfl)⟩ hI hlen) ?_
  rintro _ h7 ⟨pg, a, b, rfl, hpl, N8⟩
  have M9 := M6.trans N8
  obtain ⟨rfl, hct, hbt⟩ := placed_at hh hpl
  have hal := hct.1
  refine D rfl rfl (D rfl rfl (D rfl rfl (D rfl rfl (D rfl rfl (D rfl rfl (D rfl rfl (WS.nil [(0, _), (1, _), (5, _), (6, _), (8, _), (9, _), (10, _)] rfl ?_)))))))
  refine WC.seq (WC.seq (WC.run (D rfl rfl (WS.nil [(0, _), (1, _), (5, _), (6, _), (8, _), (9, _), (23, _)] rfl ?_))))
  cases hb1 : b
  ·
   refine WC.condF rfl (WC.skip (WC.seq (WC.run (D rfl rfl (D rfl rfl (D rfl rfl (D rfl (op_ld (M9.at 2 rfl) rfl rfl) (WS.opV (.int .i64 (((n + 1) : Nat) : Int)) rfl rfl (add_i64 (a := n) (b := 1) (by omega)) (D rfl rfl (D rfl rfl ?_))))))))))
   refine WS.st1 (M9.focus 2 rfl) [_] [_, _] rfl rfl rfl rfl rfl (C rfl) (C rfl) rfl rfl ?_
   intro h10 M11
   replace M11 : Mem _ _ ([(p, _)] :: [(p4, _)] :: [(p1, _)] :: [(po, _)] :: [(y.b, _)] :: (pseg g1 ++ pseg g2) :: L) _ := M11
   refine WS.nil [(0, _), (1, _), (5, _), (6, _), (8, _), (9, _)] rfl ?_
   refine WC.seq (WC.seq (WC.run (D rfl rfl (D rfl rfl (D rfl rfl (D rfl (op_ld (M11.at 0 rfl) rfl rfl) (D rfl rfl ?_)))))))
   refine WS.eqlN (a := (g1 ++ y :: g2).length) (b := 0) rfl rfl rfl (fun e59 => ?_) (fun e59 => ?_)
   ·
    exact absurd e59 (by omega)
   ·
    refine WS.nil [(0, _), (1, _), (5, _), (6, _), (8, _), (9, _), (59, _)] rfl ?_
    refine WC.condF rfl (WC.skip (WC.seq (WC.draw M11 [11] rfl ?_)))
    intro rb12 h13 M14
    refine D rfl rfl (D rfl rfl (D rfl rfl (D rfl (op_ld (M14.at 0 rfl) rfl rfl) (D rfl rfl (D rfl (op_iaV2 g1.length rfl rfl (by exact (List.getElem?_eq_some_iff.1 hyk).1)) (D rfl (op_ldH rfl (Row.ld (K := KPg) (k := 0) (M14.at 3 rfl) hyk rfl)) ?_))))))
    have hnt : ∀ z, y.l[a]? = some z → z.ky ≠ key := fun z hz ez => by have := hbt.2 ⟨z, hz, ez⟩; simp_all
    refine D rfl rfl (D rfl rfl (D rfl (op_lds [_, _, _] (M14.at 2 rfl) rfl (C rfl) rfl) (WS.opV (.agg #[(.string (bs key)), (.string (bs v.val)), (.int .u64 (((v.ver).toNat : Nat) : Int)), (.int .u64 (((v.lea).toNat : Nat) : Int))]) rfl rfl rfl ?_)))
    refine WS.bslA M14 [_, _, _, _] 0 rfl rfl rfl rfl rfl ?_
    intro h16 M17
    refine WS.call rfl rfl rfl (ins_call (K := KIt) (l := y.l) (i := a) (x := (⟨key, v.val, v.ver, v.lea⟩ : It)) rfl rfl ((M17.bare.focus 0 rfl).focus 5 rfl) hyc hal (by omega)) ?_
    rintro _ h18 ⟨q81, l81, hl81, rfl, M19⟩
    replace M19 : Mem _ _ ([(q81, _)] :: [(p, _)] :: [(p4, _)] :: [(p1, _)] :: [(po, _)] :: (pseg g1 ++ pseg g2) :: L) _ := M19
    have hl8 : l81.length = y.l.length + 1 := by rw [hl81]; simp; omega
    refine D rfl rfl (WS.nil [(0, _), (6, _), (8, _), (11, _)] rfl ?_)
    refine WC.seq (WC.run (D rfl rfl (D rfl rfl (D rfl rfl (D rfl (op_ld (M19.bare.at 1 rfl) rfl rfl) (D rfl rfl (D rfl rfl (D rfl (op_iaV2 g1.length rfl rfl (by exact (List.getElem?_eq_some_iff.1 hyk).1)) ?_))))))))
    refine WS.stN (K := KPg) (y' := (⟨q81, 2 * l81.length, l81⟩ : Pg)) (M19.bare.focus 4 rfl) (List.getElem?_eq_some_iff.1 hyk).1 rfl rfl rfl rfl rfl ?_
    intro h20 M21
    rw [set_mid rfl] at M21
    replace M21 : Mem _ _ ([(po, _)] :: [(q81, _)] :: [(p, _)] :: [(p4, _)] :: [(p1, _)] :: (pseg g1 ++ pseg g2) :: L) _ := M21
    refine WS.nil [(0, _), (6, _), (8, _), (11, _)] rfl ?_
    refine WC.seq (WC.seq (WC.run (D rfl rfl (D rfl rfl ?_))))
    refine WS.gtrN (a := l81.length) (b := 8) rfl rfl rfl (fun e91 => ?_) (fun e91 => ?_)
    ·
     refine WS.nil [(0, _), (6, _), (8, _), (11, _), (91, _)] rfl ?_
     refine WC.condT rfl (WC.seq (WC.run (D rfl rfl (D rfl rfl (WS.opV (.int .i64 (((l81.length + 1) : Nat) : Int)) rfl rfl (add_i64 (a := l81.length) (b := 1) (by omega)) (WS.opV (.int .i64 ((((l81.length + 1) / 2) : Nat) : Int)) rfl rfl (quo_i64 (a := (l81.length + 1)) (b := 2) (by omega)) (D rfl rfl (WS.nil [(0, _), (6, _), (8, _), (11, _), (12, _)] rfl ?_))))))))
     refine WC.seq (WC.draw M21 [11] rfl ?_)
     intro rb22 h23 M24
     refine D rfl rfl (D rfl rfl (D rfl rfl (D rfl rfl (D rfl (op_ld (M24.at 2 rfl) rfl rfl) (D rfl rfl (WS.opV (.int .i64 (((g1.length + 1) : Nat) : Int)) rfl rfl (add_i64 (a := g1.length) (b := 1) (by omega)) (D rfl rfl (D rfl rfl (D rfl (op_slPg (g := (⟨q81, 2 * l81.length, l81⟩ : Pg)) ((l81.length + 1) / 2) (M24.at 1 rfl) (by simp only []; omega) (by simp only []; omega) rfl rfl) ?_)))))))))
     refine WS.call rfl rfl rfl (clone_ran M24.bare.here (l := (l81.drop ((l81.length + 1) / 2))) (slPg (g := (⟨q81, 2 * l81.length, l81⟩ : Pg)) _ _ (M24.at 1 rfl) (by simp only []; omega)) (by intro e; have := congrArg List.length e; simp only [List.length_drop, List.length_nil] at this; omega) (by simp only [List.length_drop, List.length_take]; omega)) ?_
     rintro _ h25 ⟨q106, rfl, N26⟩
     have M27 := M24.trans N26
     refine WS.chk rfl (op_ld (M27.at 3 rfl) rfl rfl) rfl (same_sl _ _ _) ?_
     refine WS.bslA M27 [_] 0 rfl rfl rfl rfl rfl ?_
     intro h29 M30
     refine WS.call rfl rfl rfl (ins_call (K := KPg) (l := (g1 ++ (⟨q81, 2 * l81.length, l81⟩ : Pg) :: g2)) (i := (g1.length + 1)) (x := (⟨q106, 2 * (l81.drop ((l81.length + 1) / 2)).length, l81.drop ((l81.length + 1) / 2)⟩ : Pg)) rfl (by simp) ((M30.bare.focus 0 rfl).focus 2 rfl) (by rw [hco]; simp) (by simp) (by simp only [List.length_append, List.length_cons] at hlen ⊢; omega)) ?_
     rintro _ h31 ⟨q108, l108, hl108, rfl, M32⟩
     replace M32 : Mem _ _ ([(q108, _)] :: [(q106, _)] :: [(q81, _)] :: [(p, _)] :: [(p4, _)] :: [(p1, _)] :: (pseg g1 ++ pseg g2) :: L) _ := M32
     have hgl108 : l108 = g1 ++ (⟨q81, 2 * l81.length, l81⟩ : Pg) :: (⟨q106, 2 * (l81.drop ((l81.length + 1) / 2)).length, l81.drop ((l81.length + 1) / 2)⟩ : Pg) :: g2 := by rw [hl108, take_mid1, (take_mid rfl).2]; simp
     have hyk5 : l108[g1.length]? = some (⟨q81, 2 * l81.length, l81⟩ : Pg) := by rw [hgl108]; simp
     refine D rfl rfl (D rfl rfl ?_)
     refine WS.st1 (M32.focus 3 rfl) [_] [_, _] rfl rfl rfl rfl rfl (C rfl) (C rfl) rfl rfl ?_
     intro h33 M34
     replace M34 : Mem _ _ ([(p, _)] :: [(q108, _)] :: [(q106, _)] :: [(q81, _)] :: [(p4, _)] :: [(p1, _)] :: (pseg g1 ++ pseg g2) :: L) _ := M34
     refine WS.nil [(0, _), (6, _), (8, _), (11, _), (12, _)] rfl ?_
     refine WC.draw M34.bare [] rfl ?_
     intro rb35 h36 M37
     refine D rfl rfl (D rfl rfl (D rfl rfl (D rfl (op_ld (M37.at 0 rfl) rfl rfl) (D rfl rfl (D rfl rfl (D rfl rfl (D rfl (op_slVG (K := KIt) (l := l81) (j := []) ((l81.length + 1) / 2) rfl (by rw [List.append_nil]; exact (M37.at 3 rfl)) (by rw [List.append_nil]; rfl) rfl (by omega)) ?_)))))))
     refine WS.call rfl rfl rfl (clone_ran M37.bare.here (l := (l81.take ((l81.length + 1) / 2))) (by have := sl_take (K := KIt) (l := l81) (c := 2 * (l81 ++ []).length) ((l81.length + 1) / 2) (M37.at 3 rfl) (by omega); rw [List.length_take, Nat.min_eq_left (by omega)] at this; exact this) (by intro e; have := congrArg List.length e; simp only [List.length_take, List.length_nil] at this; omega) (by simp only [List.length_drop, List.length_take]; omega)) ?_
     rintro _ h38 ⟨q119, rfl, N39⟩
     have M40 := M37.trans N39
     refine WS.chk rfl (op_ld (M40.at 1 rfl) rfl rfl) rfl (same_sl _ _ _) (D rfl (op_iaV2 g1.length rfl rfl (by exact (List.getElem?_eq_some_iff.1 hyk5).1)) ?_)
     refine WS.stN (K := KPg) (y' := (⟨q119, 2 * (l81.take ((l81.length + 1) / 2)).length, l81.take ((l81.length + 1) / 2)⟩ : Pg)) (M40.focus 2 rfl) (List.getElem?_eq_some_iff.1 hyk5).1 rfl rfl rfl rfl rfl ?_
     intro h41 M42
     rw [hgl108, set_mid rfl] at M42
     replace M42 : Mem _ _ ([(q108, _)] :: [(q119, _)] :: [(p, _)] :: [(q106, _)] :: [(q81, _)] :: [(p4, _)] :: [(p1, _)] :: (pseg g1 ++ pseg g2) :: L) _ := M42
     refine WS.nil [(6, _)] rfl ?_
     refine WC.seq (WC.run (WS.opV (.agg #[(.string (bs ([]))), (.int .u64 (0 : Int)), (.int .u64 (0 : Int))]) rfl rfl rfl ?_))
     refine WS.st1 (M42.bare.focus 5 rfl) [_, _, _] [_, _, _] rfl rfl rfl rfl rfl (C rfl) (C rfl) rfl rfl ?_
     intro h43 M44
     replace M44 : Mem _ _ ([(p4, _)] :: [(q108, _)] :: [(q119, _)] :: [(p, _)] :: [(q106, _)] :: [(q81, _)] :: [(p1, _)] :: (pseg g1 ++ pseg g2) :: L) _ := M44
     refine D rfl rfl (WS.nil [(6, _), (7, _)] rfl ?_)
     refine WC.ret (⟨[_, _], (res_cellN [_, _, _] rfl (M44.at 0 rfl) (C rfl) rfl (res_tmp rfl res_nil)), ?_⟩)
     have hgn : getF (lst (g1 ++ y :: g2)).flatten key = none := by rw [get_split (lst_mid g1 g2 y) hA hB]; exact get_none (cut_not hys hct hnt)
     have hpn := put_new (it := ⟨key, v.val, v.ver, v.lea⟩) hys hct hnt
     rw [← hl81] at hpn
     rw [hpn] at hPM
     refine ⟨by unfold getV; rw [hgn]; rfl, ?_⟩
     have h9 : (l81.length + 1) / 2 = 5 := by omega
     rw [if_neg (by omega)] at hPM
     exact After.mk' (c := 2 * l108.length) (gs := g1 ++ (⟨q119, 2 * (l81.take ((l81.length + 1) / 2)).length, l81.take ((l81.length + 1) / 2)⟩ : Pg) :: (⟨q106, 2 * (l81.drop ((l81.length + 1) / 2)).length, l81.drop ((l81.length + 1) / 2)⟩ : Pg) :: g2) (by rw [hgl108]; simp) (by rw [hgl108]; simp) (by have := pok_mid hok (m := [(⟨q119, 2 * (l81.take ((l81.length + 1) / 2)).length, l81.take ((l81.length + 1) / 2)⟩ : Pg), (⟨q106, 2 * (l81.drop ((l81.length + 1) / 2)).length, l81.drop ((l81.length + 1) / 2)⟩ : Pg)]) (fun g hg => by simp at hg; rcases hg with rfl | rfl <;> simp <;> omega); simpa using this) (by rw [hPM]; simp [lst, h9]) (by rw [hn]; simp [lst]; omega) rfl (Mem.joinPg2 (y := (⟨q119, 2 * (l81.take ((l81.length + 1) / 2)).length, l81.take ((l81.length + 1) / 2)⟩ : Pg)) (z := (⟨q106, 2 * (l81.drop ((l81.length + 1) / 2)).length, l81.drop ((l81.length + 1) / 2)⟩ : Pg)) (((((((((((M44.focus 0 rfl).drop).focus 4 rfl).drop).focus 4 rfl).drop).focus 4 rfl).focus 4 rfl).focus 3 rfl).focus 3 rfl).focus 4 rfl))
    ·
     refine WS.nil [(0, _), (6, _), (8, _), (11, _), (91, _)] rfl ?_
     refine WC.condF rfl (WC.skip (WC.seq (WC.run (WS.opV (.agg #[(.string (bs ([]))), (.int .u64 (0 : Int)), (.int .u64 (0 : Int))]) rfl rfl rfl ?_))))
     refine WS.st1 (M21.focus 3 rfl) [_, _, _] [_, _, _] rfl rfl rfl rfl rfl (C rfl) (C rfl) rfl rfl ?_
     intro h45 M46
     replace M46 : Mem _ _ ([(p4, _)] :: [(po, _)] :: [(q81, _)] :: [(p, _)] :: [(p1, _)] :: (pseg g1 ++ pseg g2) :: L) _ := M46
     refine D rfl rfl (WS.nil [(6, _), (7, _)] rfl ?_)
     refine WC.ret (⟨[_, _], (res_cellN [_, _, _] rfl (M46.at 0 rfl) (C rfl) rfl (res_tmp rfl res_nil)), ?_⟩)
     have hgn : getF (lst (g1 ++ y :: g2)).flatten key = none := by rw [get_split (lst_mid g1 g2 y) hA hB]; exact get_none (cut_not hys hct hnt)
     have hpn := put_new (it := ⟨key, v.val, v.ver, v.lea⟩) hys hct hnt
     rw [← hl81] at hpn
     rw [hpn] at hPM
     refine ⟨by unfold getV; rw [hgn]; rfl, ?_⟩
     rw [if_pos (by omega)] at hPM
     exact After.mk' (c := co) (gs := g1 ++ (⟨q81, 2 * l81.length, l81⟩ : Pg) :: g2) (by simp) (by rw [hco]; simp) (by have := pok_mid hok (m := [(⟨q81, 2 * l81.length, l81⟩ : Pg)]) (fun g hg => by simp at hg; subst hg; simp); simpa using this) (by rw [hPM]; simp [lst]) (by rw [hn]; simp [lst]; omega) rfl (Mem.joinPg (y := (⟨q81, 2 * l81.length, l81⟩ : Pg)) ((((((((M46.focus 0 rfl).drop).focus 3 rfl).drop).focus 3 rfl).focus 2 rfl).focus 2 rfl).focus 3 rfl))
  ·
   refine WC.condT rfl (WC.seq (WC.draw M9 [] rfl ?_))
   intro rb47 h48 M49
   obtain ⟨z, hz, ez⟩ := hbt.1 (by assumption)
   refine D rfl rfl (D rfl rfl (D rfl rfl (D rfl (op_ld (M49.at 2 rfl) rfl rfl) (D rfl rfl (D rfl (op_iaV2 g1.length rfl rfl (by exact (List.getElem?_eq_some_iff.1 hyk).1)) (D rfl (op_ldH rfl (Row.ld (K := KPg) (k := 0) (M49.at 3 rfl) hyk rfl)) (D rfl rfl (D rfl rfl (D rfl rfl ?_)))))))))
   refine D rfl rfl (D rfl (op_ld (M49.at 2 rfl) rfl rfl) (D rfl rfl (D rfl (op_iaV2 g1.length rfl rfl (by exact (List.getElem?_eq_some_iff.1 hyk).1)) (D rfl (op_ldH rfl (Row.ld (K := KPg) (k := 0) (M49.at 3 rfl) hyk rfl)) (D rfl rfl (D rfl (op_iaV2 a rfl rfl (by exact (List.getElem?_eq_some_iff.1 hz).1)) (D rfl rfl (D rfl (op_ldN rfl (At.ldsub (At.elem (K := KIt) (at_all (K := KIt) (M49.at 4 rfl)) hz) (cs2 := [_, _, _]) rfl (C rfl))) (D rfl (op_lds [_, _, _] (M49.at 1 rfl) rfl (C rfl) rfl) ?_)))))))))
   refine WS.st1 (M49.focus 0 rfl) [_, _, _] [_, _, _] rfl rfl rfl rfl rfl (C rfl) (C rfl) rfl rfl ?_
   intro h50 M51
   replace M51 : Mem _ _ ([(p4, _)] :: [(p1, _)] :: [(p, _)] :: [(po, _)] :: [(y.b, _)] :: (pseg g1 ++ pseg g2) :: L) _ := M51
   refine WS.chk rfl (op_ld (M51.at 2 rfl) rfl rfl) rfl (same_sl _ _ _) (WS.chk rfl (op_ldH rfl (Row.ld (K := KPg) (k := 0) (M51.at 3 rfl) hyk rfl)) rfl (same_sl _ _ _) (WS.chk rfl (op_lds [_, _, _] (M51.at 1 rfl) rfl (C rfl) rfl) rfl (sameV_refl rfl) (D rfl (op_iaV2 a rfl rfl (by exact (List.getElem?_eq_some_iff.1 hz).1)) (D rfl rfl ?_))))
   refine WS.stSub (K := KIt) (k0 := 1) (y := z) (y' := { z with va := v.val, vn := v.ver, ls := v.lea }) [_, _, _] (M51.focus 4 rfl) hz rfl rfl rfl rfl rfl rfl (C rfl) (C rfl) rfl ?_
   intro h52 M53
   replace M53 : Mem _ _ ([(y.b, _)] :: [(p4, _)] :: [(p1, _)] :: [(p, _)] :: [(po, _)] :: (pseg g1 ++ pseg g2) :: L) _ := M53
   refine WS.nil [(6, _)] rfl ?_
   refine WC.seq (WC.run (D rfl (op_lds [_, _, _] (M53.bare.at 1 rfl) rfl (C rfl) rfl) ?_))
   refine WS.st1 (M53.bare.focus 1 rfl) [_, _, _] [_, _, _] rfl rfl rfl rfl rfl (C rfl) (C rfl) rfl rfl ?_
   intro h54 M55
   replace M55 : Mem _ _ ([(p4, _)] :: [(y.b, _)] :: [(p1, _)] :: [(p, _)] :: [(po, _)] :: (pseg g1 ++ pseg g2) :: L) _ := M55
   refine D rfl rfl (WS.nil [(6, _), (7, _)] rfl ?_)
   refine WC.ret (⟨[_, _], (res_cellN [_, _, _] rfl (M55.at 0 rfl) (C rfl) rfl (res_tmp rfl res_nil)), ?_⟩)
   have hgf : getF (lst (g1 ++ y :: g2)).flatten key = some z := by rw [get_split (lst_mid g1 g2 y) hA hB]; exact get_there hct hz ez
   have hz9 : ({ z with va := v.val, vn := v.ver, ls := v.lea } : It) = ⟨key, v.val, v.ver, v.lea⟩ := by rw [← ez]
   have hpt := put_there (it := ⟨key, v.val, v.ver, v.lea⟩) hys hct hz ez
   rw [hpt, if_pos (by rw [List.length_set]; exact hyl.2)] at hPM
   refine ⟨by unfold getV; rw [hgf]; rfl, After.mk' (c := co) (gs := g1 ++ (⟨y.b, y.c, y.l.set a { z with va := v.val, vn := v.ver, ls := v.lea }⟩ : Pg) :: g2) (by simp) (by rw [hco]; simp) (by have := pok_mid hok (m := [(⟨y.b, y.c, y.l.set a { z with va := v.val, vn := v.ver, ls := v.lea }⟩ : Pg)]) (fun g hg => by simp at hg; subst hg; simpa using hyc); simpa using this) (by rw [hPM, ← hz9]; simp [lst]) (by rw [hn]; simp [lst]) (flat_val (by simp [Pg.val])) (Mem.joinPg (y := (⟨y.b, y.c, y.l.set a { z with va := v.val, vn := v.ver, ls := v.lea }⟩ : Pg)) ((((((((M55.focus 0 rfl).drop).focus 1 rfl).drop).focus 3 rfl).focus 1 rfl).focus 3 rfl).focus 3 rfl))⟩
end Go.Proofs.Ytfnhhelbegnopaa.Wt
namespace Go.Proofs.Ytfnhhelbegnopaa.Wt
open Go Go.Proofs.Ytfnhhelbegnopaa.Am Go.Proofs.Ytfnhhelbegnopaa.IrAll
open Nat renaming le_of_ble_eq_true → F
open Go.Proofs.Ytfnhhelbegnopaa.Am.WS renaming op → J
set_option linter.unusedVariables false
set_option linter.unusedSimpArgs false
variable {h base : H} {L : List Seg} {R : List Nat}
theorem placed_nil {key : List UInt8} {pg a : Nat} {b : Bool} (hp : Placed [] key pg a b) : pg = 0 ∧ a = 0 ∧ b = false := by
  rcases hp with ⟨_, q⟩ | ⟨_, g, hg, _⟩
  · exact q
  · simp at hg
theorem put0_ran {p : Nat} {Vo : Value} {So : Seg} {key : List UInt8} {v : Vl} (O : Outer Vo [] So) (M : Mem base h ([(p, ⟨[Vo, .int .i64 0], 0, false⟩)] :: So :: L) []) :
    Cll tab0 9 [.pointer (some ⟨p, 0, none⟩), .string (bs key), .agg (Vl.cells v).toArray] h (fun w h2 => w = .tuple #[.agg (Vl.cells (getV (lst []).flatten key).1).toArray, .bool (getV (lst []).flatten key).2] ∧ After p base h2 L (putL (lst []) ⟨key, v.val, v.ver, v.lea⟩)) := by
  have hOs : ∀ h, (∀ p ∈ So, h.get p.1 = some p.2) → KPg.Sl h Vo [] := fun h M => outer_sl O M
  obtain ⟨Po, co, rfl⟩ := outer_len O
  refine Cll.code rfl rfl ?_
  refine WC.env [(0, _), (1, _), (2, _)] rfl ?_
  refine WC.seq (WC.run (WS.box M [_, _, _] rfl rfl rfl rfl ?_))
  intro p1 h2 M3
  refine WS.new M3 rfl ?_
  intro p4 h5 M6
  refine J rfl rfl (WS.nil [(0, _), (1, _), (5, _), (6, _)] rfl ?_)
  refine WC.seq (WC.seq (WC.run (J rfl rfl (WS.opV (.bool false) rfl rfl rfl (WS.nil [(0, _), (1, _), (5, _), (6, _), (14, _)] rfl ?_)))))
  refine WC.condF rfl (WC.skip (WC.seq (WC.run (J rfl rfl (J rfl rfl ?_)))))
  refine WS.call rfl rfl rfl (place_ran M6.here (key := key) (gs := []) (p := p) ⟨⟨_, (M6.at 2 rfl), hOs _ (Mem.owni M6 3 rfl)⟩, fun g hg => absurd hg (by simp)⟩ inv_nil (by simp)) ?_
  rintro _ h7 ⟨pg, a, b, rfl, hpl, N8⟩
  have M9 := M6.trans N8
  obtain ⟨rfl, rfl, rfl⟩ := placed_nil hpl
  refine J rfl rfl (J rfl rfl (J rfl rfl (J rfl rfl (J rfl rfl (J rfl rfl (J rfl rfl (WS.nil [(0, _), (1, _), (5, _), (6, _), (8, _), (9, _), (10, _)] rfl ?_)))))))
  refine WC.seq (WC.seq (WC.run (J rfl rfl (WS.nil [(0, _), (1, _), (5, _), (6, _), (8, _), (9, _), (23, _)] rfl ?_))))
  refine WC.condF rfl (WC.skip (WC.seq (WC.run (J rfl rfl (J rfl rfl (J rfl rfl (J rfl (op_ld (M9.at 2 rfl) rfl rfl) (WS.opV (.int .i64 1) rfl rfl rfl (J rfl rfl (J rfl rfl ?_))))))))))
  refine WS.st1 (M9.focus 2 rfl) [_] [_, _] rfl rfl rfl rfl rfl (F rfl) (F rfl) rfl rfl ?_
  intro h10 M11
  replace M11 : Mem _ _ ([(p, _)] :: [(p4, _)] :: [(p1, _)] :: So :: L) _ := M11
  refine WS.nil [(0, _), (1, _), (5, _), (6, _), (8, _), (9, _)] rfl ?_
  refine WC.seq (WC.seq (WC.run (J rfl rfl (J rfl rfl (J rfl rfl (J rfl (op_ld (M11.at 0 rfl) rfl rfl) (J rfl (op_lenVS (hOs _ (Mem.owni M11 3 rfl)) rfl) ?_)))))))
  refine WS.eqlN (a := (([] : List Pg)).length) (b := 0) rfl rfl rfl (fun e59 => ?_) (fun e59 => ?_)
  ·
   refine WS.nil [(0, _), (1, _), (5, _), (6, _), (8, _), (9, _), (59, _)] rfl ?_
   refine WC.condT rfl (WC.seq (WC.run (J rfl rfl (J rfl rfl (J rfl (op_lds [_, _, _] (M11.at 2 rfl) rfl (F rfl) rfl) (WS.opV (.agg #[(.string (bs key)), (.string (bs v.val)), (.int .u64 (((v.ver).toNat : Nat) : Int)), (.int .u64 (((v.lea).toNat : Nat) : Int))]) rfl rfl rfl ?_))))))
   refine WS.bsl M11 [_, _, _, _] rfl rfl rfl rfl ?_
   intro p12 h13 M14
   refine WS.bsl M14 [_] rfl rfl rfl rfl ?_
   intro p15 h16 M17
   refine J rfl rfl (J rfl rfl ?_)
   refine WS.st1 (M17.focus 2 rfl) [_] [_, _] rfl rfl rfl rfl rfl (F rfl) (F rfl) rfl rfl ?_
   intro h18 M19
   replace M19 : Mem _ _ ([(p, _)] :: [(p15, _)] :: [(p12, _)] :: [(p4, _)] :: [(p1, _)] :: So :: L) _ := M19
   refine WS.nil [(6, _)] rfl ?_
   refine WC.seq (WC.run (WS.opV (.agg #[(.string (bs ([]))), (.int .u64 (0 : Int)), (.int .u64 (0 : Int))]) rfl rfl rfl ?_))
   refine WS.st1 (M19.focus 3 rfl) [_, _, _] [_, _, _] rfl rfl rfl rfl rfl (F rfl) (F rfl) rfl rfl ?_
   intro h20 M21
   replace M21 : Mem _ _ ([(p4, _)] :: [(p, _)] :: [(p15, _)] :: [(p12, _)] :: [(p1, _)] :: So :: L) _ := M21
   refine J rfl rfl (WS.nil [(6, _), (7, _)] rfl ?_)
   refine WC.ret (⟨[_, _], (res_cellN [_, _, _] rfl (M21.at 0 rfl) (F rfl) rfl (res_tmp rfl res_nil)), ?_⟩)
   exact ⟨rfl, After.mk' (c := 3) (gs := [(⟨p12, 3, [⟨key, v.val, v.ver, v.lea⟩]⟩ : Pg)]) rfl (by simp) (fun g hg => by simp at hg; subst hg; simp) rfl rfl rfl (((((M21.focus 0 rfl).drop).focus 3 rfl).drop).focus 3 rfl).drop⟩
  ·
   exact absurd e59 (by simp)
theorem Put_ran {p : Nat} {LL : List (List It)} {S : Seg} {key : List UInt8} {v : Vl} (G : PgSt p LL S) (M : Mem base h (S :: L) []) (hI : Inv LL) (hn : LL.flatten.length ≤ 900000) :
    Cll tab0 9 [.pointer (some ⟨p, 0, none⟩), .string (bs key), .agg (Vl.cells v).toArray] h (fun w h2 => w = .tuple #[.agg (Vl.cells (getV LL.flatten key).1).toArray, .bool (getV LL.flatten key).2] ∧ ∃ S2, PgSt p (putL LL ⟨key, v.val, v.ver, v.lea⟩) S2 ∧ Mem base h2 (S2 :: L) []) := by
  obtain ⟨Vo, So, gs, O, hok, rfl, M⟩ := G.open M
  have fin : ∀ {h2 : H} {LL2 : List (List It)}, After p base h2 L LL2 → ∃ S2, PgSt p LL2 S2 ∧ Mem base h2 (S2 :: L) [] := fun ⟨Vo, So, gs, a, b, c, m⟩ => PgSt.shut a b c rfl m
  by_cases hne : gs = []
  · subst hne
    exact (put0_ran O (M.perm (by simp [pseg, lst]))).mono fun w h2 ⟨a, b⟩ => ⟨a, fin b⟩
  · obtain ⟨A, gl, B, e, hA, h1, h2⟩ := home_split hI (by unfold lst; simpa using hne) key
    obtain ⟨g1, y, g2, rfl, rfl, rfl, rfl⟩ := lst_split e
    obtain ⟨po, c, hc, rfl, rfl⟩ := outer_some O hne
    exact (put1_ran (Mem.splitPg M) hI hc hok (by rw [← hA, lst_len]) rfl hn h1 h2).mono fun w h2 ⟨a, b⟩ => ⟨a, fin b⟩
theorem delL_split {A B : List (List It)} {g : List It} {key : List UInt8} (hI : Inv (A ++ g :: B)) (hA : ∀ x ∈ A.flatten, kL x.ky key) (hB : ∀ x ∈ B.flatten, kL key x.ky) : delL (A ++ g :: B) key = if delF g key = [] then A ++ B else A ++ delF g key :: B := by
  have same : ∀ C : List (List It), (∀ g ∈ C, g ≠ []) → (∀ x ∈ C.flatten, x.ky ≠ key) → delL C key = C := by
    intro C
    induction C with
    | nil => intro _ _; rfl
    | cons c C ih =>
      intro h1 h2
      have e1 : delF c key = c := del_none fun x hx => h2 x (by simp [hx])
      have e2 := ih (fun g hg => h1 g (List.mem_cons_of_mem _ hg)) (fun x hx => h2 x (by rw [List.flatten_cons]; exact List.mem_append_right _ hx))
      have e3 := h1 c (List.mem_cons_self ..)
      unfold delL at e2 ⊢
      rw [List.map_cons, e1, List.filter_cons_of_pos (by cases c with | nil => exact absurd rfl e3 | cons _ _ => rfl), e2]
  have app : ∀ C D : List (List It), delL (C ++ D) key = delL C key ++ delL D key := fun C D => by simp [delL]
  have hne := fun z hz => (hI.1 z hz).1
  rw [app, same A (fun g hg => hne g (List.mem_append_left _ hg)) (fun x hx q => by have := hA x hx; rw [q] at this; exact kL_irr this), show g :: B = [g] ++ B from rfl, app, same B (fun g hg => hne g (List.mem_append_right _ (List.mem_cons_of_mem _ hg))) (fun x hx q => by have := hB x hx; rw [q] at this; exact kL_irr this)]
  unfold delL
  by_cases c : delF g key = []
  · simp [c]
  · rw [if_neg c, List.map_cons, List.map_nil, List.filter_cons_of_pos (by cases q : delF g key with | nil => exact absurd q c | cons _ _ => rfl)]; rfl
set_option maxRecDepth 8000 in
set_option maxHeartbeats 1000000 in
theorem del1_ran {p po co n : Nat} {g1 g2 : List Pg} {y : Pg} {key : List UInt8} (M : Mem base h ([(p, ⟨[.slice (some ⟨po, 0, none⟩) (g1 ++ y :: g2).length co, .int .i64 (n : Int)], 0, false⟩)] :: [(po, ⟨KPg.flat (g1 ++ y :: g2), 1, false⟩)] :: [(y.b, ⟨KIt.flat y.l, 4, false⟩)] :: (pseg g1 ++ pseg g2) :: L) []) (hI : Inv (lst (g1 ++ y :: g2))) (hco : co / 2 = (g1 ++ y :: g2).length) (hok : POK (g1 ++ y :: g2)) (hh : g1.length = home key (lst (g1 ++ y :: g2))) (hn : n = (lst (g1 ++ y :: g2)).flatten.length) (hn2 : n ≤ 900000) (hA : ∀ x ∈ (lst g1).flatten, kL x.ky key) (hB : ∀ x ∈ (lst g2).flatten, kL key x.ky) :
    Cll tab0 14 [.pointer (some ⟨p, 0, none⟩), .string (bs key)] h (fun w h2 => w = .tuple #[.agg (Vl.cells (getV (lst (g1 ++ y :: g2)).flatten key).1).toArray, .bool (getV (lst (g1 ++ y :: g2)).flatten key).2] ∧ After p base h2 L (delL (lst (g1 ++ y :: g2)) key)) := by
  have hlen : (g1 ++ y :: g2).length ≤ 1000000 := by have := pages_le hI; rw [lst_len] at this; omega
  have hyl := hI.1 y.l (mem_lst (g := y) (by simp))
  have hys := inv_page hI (mem_lst (g := y) (gs := g1 ++ y :: g2) (by simp))
  have hyk : (g1 ++ y :: g2)[g1.length]? = some y := by simp
  have hyc := hok y (by simp)
  have hDM := delL_split (key := key) (by rw [← lst_mid g1 g2 y]; exact hI) hA hB
  rw [← lst_mid] at hDM
  have hg1 : g1.length < (g1 ++ y :: g2).length := by simp
  have hn1 : 0 < n := by rw [hn, lst_mid]; have := List.length_pos_iff.2 hyl.1; simp; omega
  refine Cll.code rfl rfl ?_
  refine WC.env [(0, _), (1, _)] rfl ?_
  refine WC.seq (WC.run (WS.new M rfl ?_))
  intro p1 h2 M3
  refine J rfl rfl (WS.nil [(0, _), (1, _), (4, _)] rfl ?_)
  refine WC.seq (WC.run (J rfl rfl (J rfl rfl ?_)))
  refine WS.call rfl rfl rfl (place_ran M3.here (key := key) (gs := (g1 ++ y :: g2)) (p := p) ⟨⟨_, (M3.at 1 rfl), sl_all (M3.at 2 rfl)⟩, pg_all (M3.at 3 rfl) (Mem.owni M3 4 rfl)⟩ hI hlen) ?_
  rintro _ h4 ⟨pg, a, b, rfl, hpl, N5⟩
  have M6 := M3.trans N5
  obtain ⟨rfl, hct, hbt⟩ := placed_at hh hpl
  have hal := hct.1
  refine J rfl rfl (J rfl rfl (J rfl rfl (J rfl rfl (J rfl rfl (J rfl rfl (J rfl rfl (WS.nil [(0, _), (4, _), (6, _), (7, _), (8, _)] rfl ?_)))))))
  refine WC.seq (WC.seq (WC.run (J rfl rfl ?_)))
  cases hb1 : b
  ·
   refine WS.opV (.bool true) rfl rfl rfl (WS.nil [(0, _), (4, _), (6, _), (7, _), (17, _)] rfl ?_)
   refine WC.condT rfl (WC.seq (WC.run (WS.opV (.agg #[(.string (bs ([]))), (.int .u64 (0 : Int)), (.int .u64 (0 : Int))]) rfl rfl rfl ?_)))
   refine WS.st1 (M6.focus 0 rfl) [_, _, _] [_, _, _] rfl rfl rfl rfl rfl (F rfl) (F rfl) rfl rfl ?_
   intro h7 M8
   replace M8 : Mem _ _ ([(p1, _)] :: [(p, _)] :: [(po, _)] :: [(y.b, _)] :: (pseg g1 ++ pseg g2) :: L) _ := M8
   refine J rfl rfl (WS.nil [(4, _), (5, _)] rfl ?_)
   refine WC.ret (⟨[_, _], (res_cellN [_, _, _] rfl (M8.at 0 rfl) (F rfl) rfl (res_tmp rfl res_nil)), ?_⟩)
   have hnt : ∀ z, y.l[a]? = some z → z.ky ≠ key := fun z hz ez => by have := hbt.2 ⟨z, hz, ez⟩; simp_all
   have hcn := cut_not hys hct hnt
   have hgn : getF (lst (g1 ++ y :: g2)).flatten key = none := by rw [get_split (lst_mid g1 g2 y) hA hB]; exact get_none hcn
   rw [del_none hcn, if_neg hyl.1, ← lst_mid] at hDM
   exact ⟨by unfold getV; rw [hgn]; rfl, After.mk' (c := co) (gs := g1 ++ y :: g2) rfl hco hok hDM.symm hn rfl (Mem.joinPg (y := y) (M8.focus 0 rfl).drop)⟩
  ·
   refine WS.opV (.bool false) rfl rfl rfl (WS.nil [(0, _), (4, _), (6, _), (7, _), (17, _)] rfl ?_)
   refine WC.condF rfl (WC.skip (WC.seq (WC.run ?_)))
   obtain ⟨z, hz, ez⟩ := hbt.1 (by assumption)
   have hgf : getF (lst (g1 ++ y :: g2)).flatten key = some z := by rw [get_split (lst_mid g1 g2 y) hA hB]; exact get_there hct hz ez
   refine J rfl rfl (J rfl rfl (J rfl rfl (J rfl (op_ld (M6.at 1 rfl) rfl rfl) (J rfl rfl (J rfl (op_iaV2 g1.length rfl rfl (by exact (List.getElem?_eq_some_iff.1 hyk).1)) (J rfl (op_ldH rfl (Row.ld (K := KPg) (k := 0) (M6.at 2 rfl) hyk rfl)) (J rfl rfl (J rfl (op_iaV2 a rfl rfl (by exact (List.getElem?_eq_some_iff.1 hz).1)) (J rfl rfl ?_)))))))))
   refine J rfl (op_ldN rfl (At.ldsub (At.elem (K := KIt) (at_all (K := KIt) (M6.at 3 rfl)) hz) (cs2 := [_, _, _]) rfl (F rfl))) ?_
   refine WS.st1 (M6.focus 0 rfl) [_, _, _] [_, _, _] rfl rfl rfl rfl rfl (F rfl) (F rfl) rfl rfl ?_
   intro h9 M10
   replace M10 : Mem _ _ ([(p1, _)] :: [(p, _)] :: [(po, _)] :: [(y.b, _)] :: (pseg g1 ++ pseg g2) :: L) _ := M10
   refine WS.nil [(0, _), (4, _), (6, _), (7, _)] rfl ?_
   refine WC.seq (WC.run (J rfl rfl (J rfl rfl (J rfl rfl (J rfl (op_ld (M10.at 1 rfl) rfl rfl) (WS.opV (.int .i64 (((n - 1) : Nat) : Int)) rfl rfl (sub_i64 (a := n) (b := 1) (by omega)) (J rfl rfl (J rfl rfl ?_))))))))
   refine WS.st1 (M10.focus 1 rfl) [_] [_, _] rfl rfl rfl rfl rfl (F rfl) (F rfl) rfl rfl ?_
   intro h11 M12
   replace M12 : Mem _ _ ([(p, _)] :: [(p1, _)] :: [(po, _)] :: [(y.b, _)] :: (pseg g1 ++ pseg g2) :: L) _ := M12
   refine WS.nil [(0, _), (4, _), (6, _), (7, _)] rfl ?_
   refine WC.seq (WC.draw M12 [] rfl ?_)
   intro rb13 h14 M15
   refine J rfl rfl (J rfl rfl (J rfl rfl (J rfl (op_ld (M15.at 0 rfl) rfl rfl) (J rfl rfl (J rfl rfl (J rfl rfl (J rfl rfl (J rfl (op_ld (M15.at 0 rfl) rfl rfl) (J rfl rfl ?_)))))))))
   refine J rfl (op_iaV2 g1.length rfl rfl (by exact (List.getElem?_eq_some_iff.1 hyk).1)) (J rfl (op_ldH rfl (Row.ld (K := KPg) (k := 0) (M15.at 2 rfl) hyk rfl)) (J rfl rfl (J rfl rfl (WS.opV (.int .i64 (((a + 1) : Nat) : Int)) rfl rfl (add_i64 (a := a) (b := 1) (by omega)) ?_))))
   refine WS.call rfl rfl rfl (del_call (K := KIt) (l := y.l) (i := a) rfl rfl (M15.bare.focus 3 rfl) hyc (List.getElem?_eq_some_iff.1 hz).1 (by omega)) ?_
   rintro _ h16 ⟨q52, l52, hl52, rfl, M17⟩
   replace M17 : Mem _ _ ([(q52, _)] :: [(p, _)] :: [(p1, _)] :: [(po, _)] :: (pseg g1 ++ pseg g2) :: L) _ := M17
   have hl8 : l52.length = y.l.length - 1 := by rw [hl52, List.length_eraseIdx_of_lt (List.getElem?_eq_some_iff.1 hz).1]
   have hdf := (del_there hys hct hz ez).trans hl52.symm
   rw [hdf] at hDM
   have hyk5 : (g1 ++ (⟨q52, 2 * l52.length, l52⟩ : Pg) :: g2)[g1.length]? = some (⟨q52, 2 * l52.length, l52⟩ : Pg) := by simp
   refine WS.chk rfl (op_ld (M17.at 1 rfl) rfl rfl) rfl (same_sl _ _ _) (J rfl (op_iaV2 g1.length rfl rfl (by exact (List.getElem?_eq_some_iff.1 hyk).1)) ?_)
   refine WS.stN (K := KPg) (y' := (⟨q52, 2 * l52.length, l52⟩ : Pg)) (M17.focus 3 rfl) (List.getElem?_eq_some_iff.1 hyk).1 rfl rfl rfl rfl rfl ?_
   intro h18 M19
   rw [set_mid rfl] at M19
   replace M19 : Mem _ _ ([(po, _)] :: [(q52, _)] :: [(p, _)] :: [(p1, _)] :: (pseg g1 ++ pseg g2) :: L) _ := M19
   refine WS.nil [(0, _), (4, _), (6, _)] rfl ?_
   refine WC.seq (WC.seq (WC.run (J rfl rfl (J rfl rfl (J rfl rfl (J rfl (op_ld (M19.bare.at 2 rfl) rfl rfl) (J rfl rfl (J rfl (op_iaV2 g1.length rfl rfl (by simp)) (J rfl (op_ldH rfl (Row.ld (K := KPg) (k := 0) (M19.bare.at 0 rfl) hyk5 rfl)) (J rfl rfl ?_))))))))))
   refine WS.eqlN (a := l52.length) (b := 0) rfl rfl rfl (fun e62 => ?_) (fun e62 => ?_)
   ·
    refine WS.nil [(0, _), (4, _), (6, _), (62, _)] rfl ?_
    refine WC.condT rfl (WC.run (J rfl rfl (J rfl rfl (J rfl rfl (J rfl rfl (J rfl (op_ld (M19.bare.at 2 rfl) rfl rfl) (J rfl rfl (J rfl rfl (WS.opV (.int .i64 (((g1.length + 1) : Nat) : Int)) rfl rfl (add_i64 (a := g1.length) (b := 1) (by omega)) ?_)))))))))
    refine WS.call rfl rfl rfl (del_call (K := KPg) (l := (g1 ++ (⟨q52, 2 * l52.length, l52⟩ : Pg) :: g2)) (i := g1.length) rfl (by simp) (M19.bare.bare.focus 0 rfl) (by rw [hco]; simp) (by simp) (by simp only [List.length_append, List.length_cons] at hlen ⊢; omega)) ?_
    rintro _ h20 ⟨q71, l71, hl71, rfl, M21⟩
    replace M21 : Mem _ _ ([(q71, _)] :: [(q52, _)] :: [(p, _)] :: [(p1, _)] :: (pseg g1 ++ pseg g2) :: L) _ := M21
    have hl71b : l71 = g1 ++ g2 := by rw [hl71, List.eraseIdx_append_of_length_le (by omega), Nat.sub_self]; rfl
    refine J rfl rfl (J rfl rfl ?_)
    refine WS.st1 (M21.focus 2 rfl) [_] [_, _] rfl rfl rfl rfl rfl (F rfl) (F rfl) rfl rfl ?_
    intro h22 M23
    replace M23 : Mem _ _ ([(p, _)] :: [(q71, _)] :: [(q52, _)] :: [(p1, _)] :: (pseg g1 ++ pseg g2) :: L) _ := M23
    refine WS.nil [(4, _)] rfl ?_
    refine WC.seq (WC.run (J rfl (op_lds [_, _, _] (M23.at 3 rfl) rfl (F rfl) rfl) ?_))
    refine WS.st1 (M23.focus 3 rfl) [_, _, _] [_, _, _] rfl rfl rfl rfl rfl (F rfl) (F rfl) rfl rfl ?_
    intro h24 M25
    replace M25 : Mem _ _ ([(p1, _)] :: [(p, _)] :: [(q71, _)] :: [(q52, _)] :: (pseg g1 ++ pseg g2) :: L) _ := M25
    refine J rfl rfl (WS.nil [(4, _), (5, _)] rfl ?_)
    refine WC.ret (⟨[_, _], (res_cellN [_, _, _] rfl (M25.at 0 rfl) (F rfl) rfl (res_tmp rfl res_nil)), ?_⟩)
    rw [if_pos (List.eq_nil_of_length_eq_zero e62)] at hDM
    subst hl71b
    exact ⟨by unfold getV; rw [hgf]; rfl, After.mk' (n := n - 1) (c := 2 * (g1 ++ g2).length) (gs := g1 ++ g2) rfl (by omega) (by have := pok_mid hok (m := []) (fun g hg => absurd hg (by simp)); simpa using this) (by rw [hDM]; simp [lst]) (by rw [hn]; have q6 := e62; have q7 := List.length_pos_iff.2 hyl.1; simp [lst]; omega) rfl (by rw [pseg_app]; exact (((M25.focus 0 rfl).drop).focus 2 rfl).drop)⟩
   ·
    refine WS.nil [(0, _), (4, _), (6, _), (62, _)] rfl ?_
    refine WC.condF rfl (WC.skip (WC.seq (WC.run (J rfl (op_lds [_, _, _] (M19.bare.at 3 rfl) rfl (F rfl) rfl) ?_))))
    refine WS.st1 (M19.bare.focus 3 rfl) [_, _, _] [_, _, _] rfl rfl rfl rfl rfl (F rfl) (F rfl) rfl rfl ?_
    intro h26 M27
    replace M27 : Mem _ _ ([(p1, _)] :: [(po, _)] :: [(q52, _)] :: [(p, _)] :: (pseg g1 ++ pseg g2) :: L) _ := M27
    refine J rfl rfl (WS.nil [(4, _), (5, _)] rfl ?_)
    refine WC.ret (⟨[_, _], (res_cellN [_, _, _] rfl (M27.at 0 rfl) (F rfl) rfl (res_tmp rfl res_nil)), ?_⟩)
    rw [if_neg (fun q => e62 (by rw [q]; rfl))] at hDM
    exact ⟨by unfold getV; rw [hgf]; rfl, After.mk' (c := co) (gs := g1 ++ (⟨q52, 2 * l52.length, l52⟩ : Pg) :: g2) (by simp) (by rw [hco]; simp) (by have := pok_mid hok (m := [(⟨q52, 2 * l52.length, l52⟩ : Pg)]) (fun g hg => by simp at hg; subst hg; simp); simpa using this) (by rw [hDM]; simp [lst]) (by rw [hn]; have := List.length_pos_iff.2 hyl.1; simp [lst]; omega) rfl (Mem.joinPg (y := (⟨q52, 2 * l52.length, l52⟩ : Pg)) ((((((M27.focus 0 rfl).drop).focus 3 rfl).focus 2 rfl).focus 2 rfl).focus 3 rfl))⟩
theorem del0_ran {p : Nat} {Vo : Value} {So : Seg} {key : List UInt8} (O : Outer Vo [] So) (M : Mem base h ([(p, ⟨[Vo, .int .i64 0], 0, false⟩)] :: So :: L) []) :
    Cll tab0 14 [.pointer (some ⟨p, 0, none⟩), .string (bs key)] h (fun w h2 => w = .tuple #[.agg (Vl.cells (getV (lst []).flatten key).1).toArray, .bool (getV (lst []).flatten key).2] ∧ After p base h2 L (delL (lst []) key)) := by
  have hOs : ∀ h, (∀ p ∈ So, h.get p.1 = some p.2) → KPg.Sl h Vo [] := fun h M => outer_sl O M
  have hok : POK [] := fun g hg => absurd hg (by simp)
  refine Cll.code rfl rfl ?_
  refine WC.env [(0, _), (1, _)] rfl ?_
  refine WC.seq (WC.run (WS.new M rfl ?_))
  intro p1 h2 M3
  refine J rfl rfl (WS.nil [(0, _), (1, _), (4, _)] rfl ?_)
  refine WC.seq (WC.run (J rfl rfl (J rfl rfl ?_)))
  refine WS.call rfl rfl rfl (place_ran M3.here (key := key) (gs := []) (p := p) ⟨⟨_, (M3.at 1 rfl), hOs _ (Mem.owni M3 2 rfl)⟩, fun g hg => absurd hg (by simp)⟩ inv_nil (by simp)) ?_
  rintro _ h4 ⟨pg, a, b, rfl, hpl, N5⟩
  have M6 := M3.trans N5
  obtain ⟨rfl, rfl, rfl⟩ := placed_nil hpl
  refine J rfl rfl (J rfl rfl (J rfl rfl (J rfl rfl (J rfl rfl (J rfl rfl (J rfl rfl (WS.nil [(0, _), (4, _), (6, _), (7, _), (8, _)] rfl ?_)))))))
  refine WC.seq (WC.seq (WC.run (J rfl rfl (WS.opV (.bool true) rfl rfl rfl (WS.nil [(0, _), (4, _), (6, _), (7, _), (17, _)] rfl ?_)))))
  refine WC.condT rfl (WC.seq (WC.run (WS.opV (.agg #[(.string (bs ([]))), (.int .u64 (0 : Int)), (.int .u64 (0 : Int))]) rfl rfl rfl ?_)))
  refine WS.st1 (M6.focus 0 rfl) [_, _, _] [_, _, _] rfl rfl rfl rfl rfl (F rfl) (F rfl) rfl rfl ?_
  intro h7 M8
  replace M8 : Mem _ _ ([(p1, _)] :: [(p, _)] :: So :: L) _ := M8
  refine J rfl rfl (WS.nil [(4, _), (5, _)] rfl ?_)
  refine WC.ret (⟨[_, _], (res_cellN [_, _, _] rfl (M8.at 0 rfl) (F rfl) rfl (res_tmp rfl res_nil)), ?_⟩)
  exact ⟨rfl, ⟨Vo, So, [], O, hok, rfl, Mem.perm ((M8.focus 0 rfl).drop) (by simp [pseg, delL, lst])⟩⟩
theorem Delete_ran {p : Nat} {LL : List (List It)} {S : Seg} {key : List UInt8} (G : PgSt p LL S) (M : Mem base h (S :: L) []) (hI : Inv LL) (hn : LL.flatten.length ≤ 900000) :
    Cll tab0 14 [.pointer (some ⟨p, 0, none⟩), .string (bs key)] h (fun w h2 => w = .tuple #[.agg (Vl.cells (getV LL.flatten key).1).toArray, .bool (getV LL.flatten key).2] ∧ ∃ S2, PgSt p (delL LL key) S2 ∧ Mem base h2 (S2 :: L) []) := by
  obtain ⟨Vo, So, gs, O, hok, rfl, M⟩ := G.open M
  have fin : ∀ {h2 : H} {LL2 : List (List It)}, After p base h2 L LL2 → ∃ S2, PgSt p LL2 S2 ∧ Mem base h2 (S2 :: L) [] := fun ⟨Vo, So, gs, a, b, c, m⟩ => PgSt.shut a b c rfl m
  by_cases hne : gs = []
  · subst hne
    exact (del0_ran O (M.perm (by simp [pseg, lst]))).mono fun w h2 ⟨a, b⟩ => ⟨a, fin b⟩
  · obtain ⟨A, gl, B, e, hA, h1, h2⟩ := home_split hI (by unfold lst; simpa using hne) key
    obtain ⟨g1, y, g2, rfl, rfl, rfl, rfl⟩ := lst_split e
    obtain ⟨po, c, hc, rfl, rfl⟩ := outer_some O hne
    exact (del1_ran (Mem.splitPg M) hI hc hok (by rw [← hA, lst_len]) rfl hn h1 h2).mono fun w h2 ⟨a, b⟩ => ⟨a, fin b⟩
theorem gs_le {gs : List Pg} (hI : Inv (lst gs)) (hn : (lst gs).flatten.length ≤ 900000) : gs.length ≤ 1000000 := by have := pages_le hI; rw [lst_len] at this; omega
theorem Get_st {p : Nat} {LL : List (List It)} {S : Seg} {key : List UInt8} (G : PgSt p LL S) (M : Mem base h (S :: L) []) (hI : Inv LL) (hn : LL.flatten.length ≤ 900000) :
    Cll tab0 15 [.pointer (some ⟨p, 0, none⟩), .string (bs key)] h (fun v h2 => v = .tuple #[.agg (Vl.cells (getV LL.flatten key).1).toArray, .bool (getV LL.flatten key).2] ∧ Mem base h2 (S :: L) []) := by
  obtain ⟨gs, rfl, hok, A⟩ := G.read (Mem.owni M 0 rfl)
  exact (Get_ran M.here A hI (gs_le hI hn)).mono fun v h2 ⟨e, N⟩ => ⟨e, M.trans N⟩
theorem Len_st {p : Nat} {LL : List (List It)} {S : Seg} (G : PgSt p LL S) (M : Mem base h (S :: L) []) : Cll tab0 11 [.pointer (some ⟨p, 0, none⟩)] h (fun v h2 => v = .int .i64 ((LL.flatten.length : Nat) : Int) ∧ Mem base h2 (S :: L) []) := by
  obtain ⟨gs, rfl, hok, A⟩ := G.read (Mem.owni M 0 rfl)
  exact (Len_ran M.here A).mono fun v h2 ⟨e, N⟩ => ⟨e, M.trans N⟩
theorem Sizes_st {p : Nat} {LL : List (List It)} {S : Seg} (G : PgSt p LL S) (M : Mem base h (S :: L) []) (hI : Inv LL) (hn : LL.flatten.length ≤ 900000) : Cll tab0 10 [.pointer (some ⟨p, 0, none⟩)] h (fun v h2 => ∃ S1, KNi.Own v (LL.map List.length) S1 ∧ Mem base h2 (S1 :: S :: L) []) := by
  obtain ⟨gs, rfl, hok, A⟩ := G.read (Mem.owni M 0 rfl)
  exact (Sizes_ran M.here A (gs_le hI hn)).mono fun v h2 ⟨S1, e, N⟩ => ⟨S1, e, M.trans N⟩
theorem Range_st {p : Nat} {LL : List (List It)} {S : Seg} {fr to : List UInt8} {most : Int} (G : PgSt p LL S) (M : Mem base h (S :: L) []) (hI : Inv LL) (hn : LL.flatten.length ≤ 900000) :
    Cll tab0 12 [.pointer (some ⟨p, 0, none⟩), .string (bs fr), .string (bs to), .int .i64 most] h (fun v h2 => ∃ S1, KIt.Own v (rangeF LL.flatten fr to most) S1 ∧ Mem base h2 (S1 :: S :: L) []) := by
  obtain ⟨gs, rfl, hok, A⟩ := G.read (Mem.owni M 0 rfl)
  exact (Range_ran M.here A hI hok (gs_le hI hn) (by omega)).mono fun v h2 ⟨S1, e, N⟩ => ⟨S1, e, M.trans N⟩
theorem New_st (M : Mem base h L []) : Cll tab0 8 [] h (fun v h2 => ∃ p S, PgSt p [] S ∧ v = .pointer (some ⟨p, 0, none⟩) ∧ Mem base h2 (S :: L) []) :=
  (New_ran M.here).mono fun v h2 ⟨p, S, G, e, N⟩ => ⟨p, S, G, e, M.trans N⟩
end Go.Proofs.Ytfnhhelbegnopaa.Wt
