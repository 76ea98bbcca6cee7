/- The law 'KvReads' returns true for all arguments: what its proof stands on, part 6. -/
import Derived.Test.YtkfjlbdedjoojaaZKvReads5
namespace Go.Proofs.Ytkfjlbdedjoojaa.Wt
open Go Go.Proofs.Ytkfjlbdedjoojaa.Am Go.Proofs.Ytkfjlbdedjoojaa.IrAll
open Go.Proofs.Ytkfjlbdedjoojaa.Am.WS renaming op → C
open Go.Proofs.Ytkfjlbdedjoojaa.Am.WS renaming nil → D
open List renaming length_singleton → F
set_option linter.unusedVariables false
set_option linter.unusedSimpArgs false
variable {h base : H} {L : List Seg} {R : List Nat}
theorem shr1 {n : Nat} : Value.int .u64 (((n : Nat) : Int).fdiv (2 ^ (min (1 : Int).toNat IntKind.u64.bits))) = .int .u64 ((n / 2 : Nat) : Int) := by
  congr 1
  show ((n : Nat) : Int).fdiv (2 ^ 1) = _
  cases n <;> rfl
theorem nanS_ran (W : Mem h h [] []) {x : List UInt8} : Cll tab0 77 [.string (bs x)] h (fun v h2 => v = .bool false ∧ Mem h h2 [] []) := by
  refine Cll.code rfl rfl ?_
  refine WC.env [(0, _)] rfl ?_
  refine WC.seq (WC.run (C rfl rfl (D [(0, _)] rfl ?_)))
  refine WC.seq (WC.run (C rfl rfl (C rfl rfl ?_)))
  refine WS.sneq (l := x) (m := x) rfl rfl rfl (fun e5 => ?_) (fun e5 => ?_)
  ·
   exact absurd rfl e5
  ·
   refine C rfl rfl (D [(2, _)] rfl ?_)
   refine WC.ret (⟨[_], (res_tmp rfl res_nil), ?_⟩)
   exact ⟨rfl, W.bare.take 0⟩
def sgnS (x y : List UInt8) : Int := if kL x y then -1 else if kL y x then 1 else 0
theorem sgnS_lt {x y : List UInt8} : sgnS x y < 0 ↔ kL x y := by
  unfold sgnS; split
  · simp_all
  · split <;> simp_all
theorem sgnS_eq {x y : List UInt8} : sgnS x y = 0 ↔ x = y := by
  unfold sgnS; split
  · rename_i h; simp; intro e; subst e; exact kL_irr h
  · split
    · rename_i h; simp; intro e; subst e; exact kL_irr h
    · rename_i h1 h2; simp; exact kL_tot h1 h2
theorem cmpS_ran (W : Mem h h [] []) {x y : List UInt8} : Cll tab0 70 [.string (bs x), .string (bs y)] h (fun v h2 => v = .int .i64 (sgnS x y) ∧ Mem h h2 [] []) := by
  refine Cll.code rfl rfl ?_
  refine WC.env [(0, _), (1, _)] rfl ?_
  refine WC.seq (WC.run (C rfl rfl (D [(0, _), (1, _)] rfl ?_)))
  refine WC.seq (WC.run (C rfl rfl ?_))
  refine WS.call rfl rfl rfl (nanS_ran W.here (x := x)) ?_
  rintro _ h1 ⟨rfl, N2⟩
  have M3 := W.trans N2
  refine C rfl rfl (D [(0, _), (1, _), (5, _)] rfl ?_)
  refine WC.seq (WC.run (C rfl rfl ?_))
  refine WS.call rfl rfl rfl (nanS_ran M3.here (x := y)) ?_
  rintro _ h4 ⟨rfl, N5⟩
  have M6 := M3.trans N5
  refine C rfl rfl (D [(0, _), (1, _), (5, _), (6, _)] rfl ?_)
  refine WC.seq (WC.seq (WC.run (C rfl rfl (D [(0, _), (1, _), (6, _), (11, _)] rfl ?_))))
  refine WC.condF rfl (WC.skip (WC.seq (WC.seq (WC.run (C rfl rfl (D [(0, _), (1, _), (13, _)] rfl ?_))))))
  refine WC.condF rfl (WC.skip (WC.seq (WC.seq (WC.run (C rfl rfl (C rfl rfl ?_))))))
  refine WS.slss (l := x) (m := y) rfl rfl rfl (fun e16 => ?_) (fun e16 => ?_)
  ·
   refine D [(0, _), (1, _), (16, _)] rfl ?_
   refine WC.condT rfl (WC.seq (WC.run (C rfl rfl (D [(4, _)] rfl ?_))))
   refine WC.ret (⟨[_], (res_tmp rfl res_nil), ?_⟩)
   refine ⟨?_, M6.bare.take 0⟩
   show Value.int .i64 (-1) = _
   unfold sgnS
   simp_all
  ·
   refine D [(0, _), (1, _), (16, _)] rfl ?_
   refine WC.condF rfl (WC.skip (WC.seq (WC.seq (WC.run (C rfl rfl (C rfl rfl ?_))))))
   refine WS.sgtr (l := x) (m := y) rfl rfl rfl (fun e19 => ?_) (fun e19 => ?_)
   ·
    refine D [(19, _)] rfl ?_
    refine WC.condT rfl (WC.seq (WC.run (C rfl rfl (D [(4, _)] rfl ?_))))
    refine WC.ret (⟨[_], (res_tmp rfl res_nil), ?_⟩)
    refine ⟨?_, M6.bare.take 0⟩
    show Value.int .i64 (1) = _
    unfold sgnS
    simp_all
   ·
    refine D [(19, _)] rfl ?_
    refine WC.condF rfl (WC.skip (WC.seq (WC.run (C rfl rfl (D [(4, _)] rfl ?_)))))
    refine WC.ret (⟨[_], (res_tmp rfl res_nil), ?_⟩)
    refine ⟨?_, M6.bare.take 0⟩
    show Value.int .i64 (0) = _
    unfold sgnS
    simp_all
theorem place1_ran (W : Mem h h [] []) {x : It} {key : List UInt8} : Cll tab0 69 [.agg (It.cells x).toArray, .string (bs key)] h (fun v h2 => v = .int .i64 (sgnS x.ky key) ∧ Mem h h2 [] []) := by
  refine Cll.code rfl rfl ?_
  refine WC.env [(0, _), (1, _)] rfl ?_
  refine WC.seq (WC.run (WS.box W [_, _, _, _] rfl rfl rfl rfl ?_))
  intro p1 h2 M3
  refine C rfl rfl (D [(1, _), (2, _)] rfl ?_)
  refine WC.seq (WC.run (C rfl rfl (C rfl (op_ld (M3.at 0 rfl) rfl rfl) (C rfl rfl ?_))))
  refine WS.call rfl rfl rfl (cmpS_ran M3.here (x := x.ky) (y := key)) ?_
  rintro _ h4 ⟨rfl, N5⟩
  have M6 := M3.trans N5
  refine C rfl rfl (D [(4, _)] rfl ?_)
  refine WC.ret (⟨[_], (res_tmp rfl res_nil), ?_⟩)
  exact ⟨rfl, M6.bare.take 0⟩
theorem bsearch_ran (W : Mem h h [] []) {V : Value} {l : List It} {key : List UInt8} (A : KIt.Sl h V l) (hs : SrtI l) (hl : l.length ≤ 1000000) : Cll tab0 68 [V, .string (bs key), .func (.func 69) #[] #[]] h (fun v h2 => ∃ (a : Nat) (b : Bool), v = .tuple #[.int .i64 (a : Int), .bool b] ∧ IsCut key l a ∧ (b = true ↔ ∃ y, l[a]? = some y ∧ y.ky = key) ∧ Mem h h2 [] []) := by
  obtain ⟨Pl, nl, rfl⟩ := A.shape
  refine Cll.code rfl rfl ?_
  refine WC.env [(0, _), (1, _), (2, _)] rfl ?_
  refine WC.seq (WC.run (C rfl rfl (C rfl rfl (D [(0, _), (1, _), (2, _)] rfl ?_))))
  refine WC.seq (WC.run (C rfl rfl (C rfl (op_lenVS A rfl) (C rfl rfl (D [(0, _), (1, _), (2, _), (8, _)] rfl ?_)))))
  refine WC.seq (WC.run (C rfl rfl (C rfl rfl (C rfl rfl (D [(0, _), (1, _), (2, _), (8, _), (9, _), (10, _)] rfl ?_)))))
  refine WC.seq (WC.block ?_)
  obtain ⟨L1, eL3, M2⟩ := Mem.name W.bare
  refine WC.loop (σ := Nat × Nat) (fun ((i, j)) => [(0, (.slice Pl l.length nl)), (1, (.string (bs key))), (2, (.func (.func 69) #[] #[])), (8, (.int .i64 (((l).length : Nat) : Int))), (9, (.int .i64 ((i : Nat) : Int))), (10, (.int .i64 ((j : Nat) : Int)))]) (fun ((i, j)) hh => Mem h hh (L1) [] ∧ i ≤ j ∧ j ≤ l.length ∧ (∀ k x, k < i → l[k]? = some x → kL x.ky key) ∧ ∀ k x, j ≤ k → l[k]? = some x → ¬ kL x.ky key) (fun ((i, j)) => j - i) (0, l.length) rfl ⟨M2, ?_⟩ ?_
  · exact ⟨by omega, by omega, fun k x q => by omega, fun k x q hx => by have := (List.getElem?_eq_some_iff.1 hx).1; omega⟩
  ·rintro ⟨i, j⟩ h4 ⟨M5, ⟨h1, h2, h3, h4⟩⟩
   replace eL3 := eL3.symm; subst eL3
   refine WC.env [(0, _), (1, _), (2, _), (8, _), (9, _), (10, _)] rfl ?_
   refine WC.seq (WC.seq (WC.run (C rfl rfl (C rfl rfl ?_))))
   refine WS.lssN (a := i) (b := j) rfl rfl rfl (fun e17 => ?_) (fun e17 => ?_)
   ·
    refine D [(0, _), (1, _), (2, _), (8, _), (9, _), (10, _), (17, _)] rfl ?_
    refine WC.condT rfl (WC.skip (WC.block (WC.seq (WC.run (C rfl rfl (C rfl rfl (WS.opV (.int .i64 (((i + j) : Nat) : Int)) rfl rfl (add_i64 (a := i) (b := j) (by omega)) (WS.opV (.int .u64 (((i + j) : Nat) : Int)) rfl rfl (cv_u64 (n := (i + j)) (by omega)) (WS.opV (.int .u64 (((i + j) / 2 : Nat) : Int)) rfl rfl shr1 (WS.opV (.int .i64 ((((i + j) / 2) : Nat) : Int)) rfl rfl (cv_i64 (n := ((i + j) / 2)) (by omega)) (C rfl rfl (D [(0, _), (1, _), (2, _), (8, _), (9, _), (10, _), (11, _)] rfl ?_))))))))))))
    refine WC.seq (WC.run (C rfl rfl (C rfl rfl (C rfl rfl ?_))))
    obtain ⟨y27, hy27⟩ : ∃ y, (l)[((i + j) / 2)]? = some y := ⟨_, List.getElem?_eq_getElem (show ((i + j) / 2) < (l).length by first | omega | (simp only [List.length_drop, List.length_take, List.length_append, List.length_cons, List.length_nil, F]; omega) | (simp only [List.length_drop, List.length_take, List.length_append, List.length_cons, List.length_nil, F] at *; omega))⟩
    refine WS.iaVS A ((i + j) / 2) hy27 rfl rfl rfl rfl ?_
    intro b27_ o27_ ha27
    refine C rfl (op_ldAt rfl (ha27.mono M5.sub) rfl) (C rfl rfl ?_)
    refine WS.call rfl rfl rfl (place1_ran M5.here (x := y27) (key := key)) ?_
    rintro _ h6 ⟨rfl, N7⟩
    have M8 := M5.trans N7
    refine WS.lss (a := (sgnS y27.ky key)) (b := (0 : Int)) rfl rfl rfl (fun e31 => ?_) (fun e31 => ?_)
    ·
     refine D [(0, _), (1, _), (2, _), (8, _), (9, _), (10, _), (11, _), (31, _)] rfl ?_
     refine WC.condT rfl (WC.run (C rfl rfl (WS.opV (.int .i64 (((((i + j) / 2) + 1) : Nat) : Int)) rfl rfl (add_i64 (a := ((i + j) / 2)) (b := 1) (by omega)) (C rfl rfl (D [(0, _), (1, _), (2, _), (8, _), (9, _), (10, _)] rfl ?_)))))
     refine ⟨((((i + j) / 2) + 1), j), rfl, ⟨(M8.bare.take 0), ?_⟩, ?_⟩
     · exact ⟨by omega, by omega, fun k x q hx => have q0 := sgnS_lt.1 e31; if c : k = (i + j) / 2 then (by subst c; rw [hy27] at hx; cases hx; exact q0) else kL_tr (srt_get hs (by omega) hx hy27) q0, fun k x q hx => h4 k x (by omega) hx⟩
     · simp only []; omega
    ·
     refine D [(0, _), (1, _), (2, _), (8, _), (9, _), (10, _), (11, _), (31, _)] rfl ?_
     refine WC.condF rfl (WC.run (C rfl rfl (C rfl rfl (D [(0, _), (1, _), (2, _), (8, _), (9, _), (10, _)] rfl ?_))))
     refine ⟨(i, ((i + j) / 2)), rfl, ⟨(M8.bare.take 0), ?_⟩, ?_⟩
     · exact ⟨by omega, by omega, fun k x q hx => h3 k x (by omega) hx, fun k x q hx => have q0 : ¬ kL y27.ky key := fun z => (by have := sgnS_lt.2 z; omega); if c : k = (i + j) / 2 then (by subst c; rw [hy27] at hx; cases hx; exact q0) else fun z => q0 (kL_tr (srt_get hs (by omega) hy27 hx) z)⟩
     · simp only []; omega
   ·
    refine D [(0, _), (1, _), (2, _), (8, _), (9, _), (10, _), (17, _)] rfl ?_
    refine WC.condF rfl (WC.exit ?_)
    refine WC.seq (WC.run (C rfl rfl (C rfl rfl (C rfl rfl ?_))))
    refine WS.lssN (a := i) (b := (l).length) rfl rfl rfl (fun e38 => ?_) (fun e38 => ?_)
    ·
     refine C rfl rfl (C rfl rfl (C rfl rfl (C rfl rfl ?_)))
     obtain ⟨y43, hy43⟩ : ∃ y, (l)[i]? = some y := ⟨_, List.getElem?_eq_getElem (show i < (l).length by first | omega | (simp only [List.length_drop, List.length_take, List.length_append, List.length_cons, List.length_nil, F]; omega) | (simp only [List.length_drop, List.length_take, List.length_append, List.length_cons, List.length_nil, F] at *; omega))⟩
     refine WS.iaVS A i hy43 rfl rfl rfl rfl ?_
     intro b43_ o43_ ha43
     refine C rfl (op_ldAt rfl (ha43.mono M5.sub) rfl) (C rfl rfl ?_)
     refine WS.call rfl rfl rfl (place1_ran M5.here (x := y43) (key := key)) ?_
     rintro _ h9 ⟨rfl, N10⟩
     have M11 := M5.trans N10
     refine WS.eql (a := (sgnS y43.ky key)) (b := (0 : Int)) rfl rfl rfl (fun e47 => ?_) (fun e47 => ?_)
     ·
      refine C rfl rfl (C rfl rfl (C rfl rfl (D [(6, _), (7, _)] rfl ?_)))
      refine WC.ret (⟨[_, _], (res_tmp rfl (res_tmp rfl res_nil)), ?_⟩)
      have hij : i = j := by omega
      subst hij
      exact ⟨i, true, rfl, ⟨h2, h3, h4⟩, ⟨fun _ => ⟨y43, hy43, sgnS_eq.1 (by assumption)⟩, fun _ => rfl⟩, M11.bare.take 0⟩
     ·
      refine C rfl rfl (C rfl rfl (C rfl rfl (D [(6, _), (7, _)] rfl ?_)))
      refine WC.ret (⟨[_, _], (res_tmp rfl (res_tmp rfl res_nil)), ?_⟩)
      have hij : i = j := by omega
      subst hij
      refine ⟨i, false, rfl, ⟨h2, h3, h4⟩, ⟨fun q => (nomatch q), fun ⟨y, hy, ey⟩ => ?_⟩, M11.bare.take 0⟩
      exfalso
      first
      | (rw [hy43] at hy; cases hy; exact absurd (sgnS_eq.2 ey) (by assumption))
      | (have := (List.getElem?_eq_some_iff.1 hy).1; omega)
    ·
     refine C rfl rfl (WS.off rfl (WS.off rfl (WS.off rfl (WS.off rfl (WS.off rfl (WS.off rfl (WS.offC rfl (WS.off rfl (C rfl rfl ?_)))))))))
     refine C rfl rfl (C rfl rfl (D [(6, _), (7, _)] rfl ?_))
     refine WC.ret (⟨[_, _], (res_tmp rfl (res_tmp rfl res_nil)), ?_⟩)
     have hij : i = j := by omega
     subst hij
     refine ⟨i, false, rfl, ⟨h2, h3, h4⟩, ⟨fun q => (nomatch q), fun ⟨y, hy, ey⟩ => ?_⟩, M5.bare.take 0⟩
     exfalso
     first
     | (rw [hy43] at hy; cases hy; exact absurd (sgnS_eq.2 ey) (by assumption))
     | (have := (List.getElem?_eq_some_iff.1 hy).1; omega)
theorem page1_ran (W : Mem h h [] []) {p b1 b2 i n : Nat} {gs : List Pg} {g : Pg} {key : List UInt8} (G : PgR h p gs n) (q1 : h.get b1 = some ⟨[.pointer (some ⟨p, 0, none⟩)], 0, false⟩) (q2 : h.get b2 = some ⟨[.string (bs key)], 0, false⟩) (hi : gs[i]? = some g) (hg : g.l ≠ []) : Cll tab0 76 [.int .i64 (i : Int), .pointer (some ⟨b1, 0, none⟩), .pointer (some ⟨b2, 0, none⟩)] h (fun v h2 => v = .bool (decide (kL key (fk g.l))) ∧ Mem h h2 [] []) := by
  obtain ⟨⟨Vo, hp, hO⟩, hP⟩ := G
  obtain ⟨Pl, nl, rfl⟩ := hO.shape
  have hgl : 0 < g.l.length := List.length_pos_iff.2 hg
  have hil := (List.getElem?_eq_some_iff.1 hi).1
  refine Cll.code rfl rfl ?_
  refine WC.env [(0, _), (1, _), (2, _)] rfl ?_
  refine WC.seq (WC.run (C rfl rfl (D [(0, _), (1, _), (2, _)] rfl ?_)))
  refine WC.seq (WC.draw W [] rfl ?_)
  intro rb1 h2 M3
  refine C rfl (op_ld (M3.sub _ _ q1) rfl rfl) (C rfl rfl (C rfl rfl (C rfl (op_ld (M3.sub _ _ hp) rfl rfl) (C rfl rfl ?_))))
  obtain ⟨y10, hy10⟩ : ∃ y, (gs)[i]? = some y := ⟨_, List.getElem?_eq_getElem (show i < (gs).length by first | omega | (simp only [List.length_drop, List.length_take, List.length_append, List.length_cons, List.length_nil, F]; omega) | (simp only [List.length_drop, List.length_take, List.length_append, List.length_cons, List.length_nil, F] at *; omega))⟩
  refine WS.iaVS hO i hy10 rfl rfl rfl rfl ?_
  intro b10_ o10_ ha10
  refine C rfl (op_ldH rfl (At.ld0 (ha10.mono M3.sub) rfl)) ?_
  have e10 : y10 = g := Option.some.inj (hy10.symm.trans hi)
  subst e10
  obtain ⟨y12, hy12⟩ : ∃ y, (y10.l)[0]? = some y := ⟨_, List.getElem?_eq_getElem (show 0 < (y10.l).length by first | omega | (simp only [List.length_drop, List.length_take, List.length_append, List.length_cons, List.length_nil, F]; omega) | (simp only [List.length_drop, List.length_take, List.length_append, List.length_cons, List.length_nil, F] at *; omega))⟩
  refine WS.iaVS (Pg.sl (hP y10 (List.mem_of_getElem? hy10))) 0 hy12 rfl rfl rfl rfl ?_
  intro b12_ o12_ ha12
  refine C rfl rfl (C rfl (op_ldH rfl (At.ld0 (ha12.mono M3.sub) rfl)) (C rfl (op_ld (M3.sub _ _ q2) rfl rfl) ?_))
  refine WS.sgtr (l := y12.ky) (m := key) rfl rfl rfl (fun e16 => ?_) (fun e16 => ?_)
  ·
   refine C rfl rfl (D [(4, _)] rfl ?_)
   refine WC.ret (⟨[_], (res_tmp rfl res_nil), ?_⟩)
   have hfk : fk y10.l = y12.ky := by (cases hq : y10.l with | nil => rw [hq] at hy12; simp at hy12 | cons z r => rw [hq] at hy12; simp at hy12; subst hy12; rfl)
   exact ⟨by rw [hfk, decide_eq_true e16]; rfl, M3.bare.bare.take 0⟩
  ·
   refine C rfl rfl (D [(4, _)] rfl ?_)
   refine WC.ret (⟨[_], (res_tmp rfl res_nil), ?_⟩)
   have hfk : fk y10.l = y12.ky := by (cases hq : y10.l with | nil => rw [hq] at hy12; simp at hy12 | cons z r => rw [hq] at hy12; simp at hy12; subst hy12; rfl)
   exact ⟨by rw [hfk, decide_eq_false e16]; rfl, M3.bare.bare.take 0⟩
end Go.Proofs.Ytkfjlbdedjoojaa.Wt
namespace Go.Proofs.Ytkfjlbdedjoojaa.Wt
open Go Go.Proofs.Ytkfjlbdedjoojaa.Am Go.Proofs.Ytkfjlbdedjoojaa.IrAll
open Go.Proofs.Ytkfjlbdedjoojaa.Am.WS renaming op → C
set_option linter.unusedVariables false
set_option linter.unusedSimpArgs false
variable {h base : H} {L : List Seg} {R : List Nat}
theorem mem_lst {gs : List Pg} {g : Pg} (h : g ∈ gs) : g.l ∈ lst gs := List.mem_map.2 ⟨g, h, rfl⟩
theorem lst_get {gs : List Pg} {i : Nat} {g : Pg} (h : gs[i]? = some g) : (lst gs)[i]? = some g.l := by unfold lst; rw [List.getElem?_map, h]; rfl
theorem lst_get' {gs : List Pg} {i : Nat} {l : List It} (h : (lst gs)[i]? = some l) : ∃ g, gs[i]? = some g ∧ g.l = l := by
  unfold lst at h; rw [List.getElem?_map] at h
  cases q : gs[i]? with
  | none => rw [q] at h; cases h
  | some g => rw [q] at h; simp at h; exact ⟨g, rfl, h⟩
theorem page_small {L : List (List It)} (h : Inv L) {g : List It} (hg : g ∈ L) : g.length ≤ 1000000 := by have := (h.1 g hg).2; omega
theorem fkr {gs : List Pg} (hI : Inv (lst gs)) {i j : Nat} {g g2 : Pg} (hij : i < j) (hi : gs[i]? = some g) (hj : gs[j]? = some g2) : kL (fk g.l) (fk g2.l) := fk_rise hI hij (lst_get hi) (lst_get hj)
theorem search_ran (W : Mem h h [] []) {p b1 b2 n : Nat} {gs : List Pg} {key : List UInt8} (G : PgR h p gs n) (q1 : h.get b1 = some ⟨[.pointer (some ⟨p, 0, none⟩)], 0, false⟩) (q2 : h.get b2 = some ⟨[.string (bs key)], 0, false⟩) (hne : ∀ g ∈ gs, g.l ≠ []) (hI : Inv (lst gs)) (hlen : gs.length ≤ 1000000) :
    Cll tab0 75 [.int .i64 (gs.length : Int), .func (.func 76) #[] #[.pointer (some ⟨b1, 0, none⟩), .pointer (some ⟨b2, 0, none⟩)]] h (fun v h2 => ∃ s : Nat, v = .int .i64 (s : Int) ∧ IsHome key (lst gs) s ∧ Mem h h2 [] []) := by
  refine Cll.code rfl rfl ?_
  refine WC.env [(0, _), (1, _)] rfl ?_
  refine WC.seq (WC.run (C rfl rfl (WS.nil [(0, _), (1, _)] rfl ?_)))
  refine WC.seq (WC.run (C rfl rfl (C rfl rfl (C rfl rfl (WS.nil [(1, _), (5, _), (6, _)] rfl ?_)))))
  refine WC.seq (WC.block ?_)
  obtain ⟨L1, eL3, M2⟩ := Mem.name W.bare
  refine WC.loop (σ := Nat × Nat) (fun ((i, j)) => [(1, (.func (.func 76) #[] #[(.pointer (some ⟨b1, 0, none⟩)), (.pointer (some ⟨b2, 0, none⟩))])), (5, (.int .i64 ((i : Nat) : Int))), (6, (.int .i64 ((j : Nat) : Int)))]) (fun ((i, j)) hh => Mem h hh (L1) [] ∧ i ≤ j ∧ j ≤ gs.length ∧ (∀ k x, k < i → gs[k]? = some x → ¬ kL key (fk x.l)) ∧ ∀ k x, j ≤ k → gs[k]? = some x → kL key (fk x.l)) (fun ((i, j)) => j - i) (0, gs.length) rfl ⟨M2, ?_⟩ ?_
  · exact ⟨by omega, by omega, fun k x q => by omega, fun k x q hx => by have := (List.getElem?_eq_some_iff.1 hx).1; omega⟩
  ·rintro ⟨i, j⟩ h4 ⟨M5, ⟨h1, h2, h3, h4⟩⟩
   replace eL3 := eL3.symm; subst eL3
   refine WC.env [(1, _), (5, _), (6, _)] rfl ?_
   refine WC.seq (WC.seq (WC.run (C rfl rfl (C rfl rfl ?_))))
   refine WS.lssN (a := i) (b := j) rfl rfl rfl (fun e11 => ?_) (fun e11 => ?_)
   ·
    refine WS.nil [(1, _), (5, _), (6, _), (11, _)] rfl ?_
    refine WC.condT rfl (WC.skip (WC.block (WC.seq (WC.run (C rfl rfl (C rfl rfl (WS.opV (.int .i64 (((i + j) : Nat) : Int)) rfl rfl (add_i64 (a := i) (b := j) (by omega)) (WS.opV (.int .u64 (((i + j) : Nat) : Int)) rfl rfl (cv_u64 (n := (i + j)) (by omega)) (WS.opV (.int .u64 (((i + j) / 2 : Nat) : Int)) rfl rfl shr1 (WS.opV (.int .i64 ((((i + j) / 2) : Nat) : Int)) rfl rfl (cv_i64 (n := ((i + j) / 2)) (by omega)) (C rfl rfl (WS.nil [(1, _), (5, _), (6, _), (7, _)] rfl ?_))))))))))))
    refine WC.seq (WC.run (C rfl rfl (C rfl rfl ?_)))
    obtain ⟨g20, hg20⟩ : ∃ g, gs[((i + j) / 2)]? = some g := ⟨_, List.getElem?_eq_getElem (by omega)⟩
    refine WS.call rfl rfl rfl (page1_ran M5.here (G.mono M5.sub) (M5.sub _ _ q1) (M5.sub _ _ q2) hg20 (hne _ (List.mem_of_getElem? hg20))) ?_
    rintro _ h6 ⟨rfl, N7⟩
    have M8 := M5.trans N7
    cases hb1 : (decide (kL key (fk g20.l)))
    ·
     refine WS.opV (.bool true) rfl rfl rfl (WS.nil [(1, _), (5, _), (6, _), (7, _), (21, _)] rfl ?_)
     refine WC.condT rfl (WC.run (C rfl rfl (WS.opV (.int .i64 (((((i + j) / 2) + 1) : Nat) : Int)) rfl rfl (add_i64 (a := ((i + j) / 2)) (b := 1) (by omega)) (C rfl rfl (WS.nil [(1, _), (5, _), (6, _)] rfl ?_)))))
     refine ⟨((((i + j) / 2) + 1), j), rfl, ⟨(M8.bare.take 0), ?_⟩, ?_⟩
     · have q0 : ¬ kL key (fk g20.l) := of_decide_eq_false (by assumption)
       exact ⟨by omega, by omega, fun k x q hx => if c : k = (i + j) / 2 then (by subst c; rw [hg20] at hx; cases hx; exact q0) else fun z => q0 (kL_tr z (fkr hI (by omega) hx hg20)), fun k x q hx => h4 k x (by omega) hx⟩
     · simp only []; omega
    ·
     refine WS.opV (.bool false) rfl rfl rfl (WS.nil [(1, _), (5, _), (6, _), (7, _), (21, _)] rfl ?_)
     refine WC.condF rfl (WC.run (C rfl rfl (C rfl rfl (WS.nil [(1, _), (5, _), (6, _)] rfl ?_))))
     refine ⟨(i, ((i + j) / 2)), rfl, ⟨(M8.bare.take 0), ?_⟩, ?_⟩
     · have q0 : kL key (fk g20.l) := of_decide_eq_true (by assumption)
       exact ⟨by omega, by omega, fun k x q hx => h3 k x (by omega) hx, fun k x q hx => if c : k = (i + j) / 2 then (by subst c; rw [hg20] at hx; cases hx; exact q0) else kL_tr q0 (fkr hI (by omega) hg20 hx)⟩
     · simp only []; omega
   ·
    refine WS.nil [(1, _), (5, _), (6, _), (11, _)] rfl ?_
    refine WC.condF rfl (WC.exit ?_)
    refine WC.seq (WC.run (C rfl rfl (C rfl rfl (WS.nil [(4, _)] rfl ?_))))
    refine WC.ret (⟨[_], (res_tmp rfl res_nil), ?_⟩)
    refine ⟨i, rfl, ⟨by simp only [lst, List.length_map]; omega, fun k x q hx => ?_, fun k x q hx => ?_⟩, M5.bare.take 0⟩
    · obtain ⟨g, hg, rfl⟩ := lst_get' hx; exact h3 k g q hg
    · obtain ⟨g, hg, rfl⟩ := lst_get' hx; exact h4 k g (by omega) hg
theorem sub1 {s : Nat} (h : s ≤ 1000000) : Value.int .i64 (IntKind.i64.wrap ((s : Int) - 1)) = .int .i64 ((s : Int) - 1) := by
  congr 1; rw [IntKind.wrap_i64]; omega
theorem max0 {s : Nat} : Value.int .i64 (if (0 : Int) > (s : Int) - 1 then 0 else (s : Int) - 1) = .int .i64 ((s - 1 : Nat) : Int) := by
  congr 1; split <;> omega
theorem page_ran (W : Mem h h [] []) {p n : Nat} {gs : List Pg} {key : List UInt8} (G : PgR h p gs n) (hI : Inv (lst gs)) (hg0 : gs ≠ []) (hlen : gs.length ≤ 1000000) :
    Cll tab0 67 [.pointer (some ⟨p, 0, none⟩), .string (bs key)] h (fun v h2 => ∃ s : Nat, v = .int .i64 ((s - 1 : Nat) : Int) ∧ IsHome key (lst gs) s ∧ Mem h h2 [] []) := by
  have hne : ∀ g ∈ gs, g.l ≠ [] := fun g hg => (hI.1 _ (mem_lst hg)).1
  have G0 := G
  obtain ⟨⟨Vo, hp, hO⟩, hP⟩ := G0
  obtain ⟨Pl, nl, rfl⟩ := hO.shape
  refine Cll.code rfl rfl ?_
  refine WC.env [(0, _), (1, _)] rfl ?_
  refine WC.seq (WC.run (WS.box W [_] rfl rfl rfl rfl ?_))
  intro p1 h2 M3
  refine WS.box M3 [_] rfl rfl rfl rfl ?_
  intro p4 h5 M6
  refine C rfl rfl (WS.nil [(2, _), (3, _)] rfl ?_)
  refine WC.seq (WC.run (C rfl (op_ld (M6.at 1 rfl) rfl rfl) (C rfl rfl (C rfl rfl (C rfl (op_ld (M6.sub _ _ hp) rfl rfl) (C rfl (op_lenVS hO rfl) (C rfl rfl ?_)))))))
  refine WS.call rfl rfl rfl (search_ran M6.here (G.mono M6.sub) (M6.at 1 rfl) (M6.at 0 rfl) hne hI (by omega)) ?_
  rintro _ h7 ⟨s11, rfl, hs11, N8⟩
  have M9 := M6.trans N8
  refine WS.opV (.int .i64 ((s11 : Int) - 1)) rfl rfl (sub1 (by have := hs11.1; simp only [lst, List.length_map] at this; omega)) (WS.opV (.int .i64 ((s11 - 1 : Nat) : Int)) rfl rfl max0 (C rfl rfl (WS.nil [(4, _)] rfl ?_)))
  refine WC.ret (⟨[_], (res_tmp rfl res_nil), ?_⟩)
  exact ⟨s11, rfl, hs11, M9.bare.take 0⟩
def Placed (gs : List Pg) (key : List UInt8) (pg a : Nat) (b : Bool) : Prop := (gs = [] ∧ pg = 0 ∧ a = 0 ∧ b = false) ∨ (pg = home key (lst gs) ∧ ∃ g, gs[pg]? = some g ∧ IsCut key g.l a ∧ (b = true ↔ ∃ y, g.l[a]? = some y ∧ y.ky = key))
theorem place_ran (W : Mem h h [] []) {p n : Nat} {gs : List Pg} {key : List UInt8} (G : PgR h p gs n) (hI : Inv (lst gs)) (hlen : gs.length ≤ 1000000) :
    Cll tab0 59 [.pointer (some ⟨p, 0, none⟩), .string (bs key)] h (fun v h2 => ∃ (pg a : Nat) (b : Bool), v = .tuple #[.int .i64 (pg : Int), .int .i64 (a : Int), .bool b] ∧ Placed gs key pg a b ∧ Mem h h2 [] []) := by
  have G0 := G
  obtain ⟨⟨Vo, hp, hO⟩, hP⟩ := G0
  obtain ⟨Pl, nl, rfl⟩ := hO.shape
  refine Cll.code rfl rfl ?_
  refine WC.env [(0, _), (1, _)] rfl ?_
  refine WC.seq (WC.run (C rfl rfl (C rfl rfl (C rfl rfl (WS.nil [(0, _), (1, _)] rfl ?_)))))
  refine WC.seq (WC.seq (WC.run (C rfl rfl (WS.opV (.bool false) rfl rfl rfl (C rfl rfl (C rfl rfl (C rfl rfl (C rfl rfl (C rfl (op_ld (W.sub _ _ hp) rfl rfl) (C rfl (op_lenVS hO rfl) ?_))))))))))
  refine WS.eqlN (a := (gs).length) (b := 0) rfl rfl rfl (fun e15 => ?_) (fun e15 => ?_)
  ·
   refine C rfl rfl (WS.nil [(0, _), (1, _), (16, _)] rfl ?_)
   refine WC.condT rfl (WC.seq (WC.run (C rfl rfl (C rfl rfl (C rfl rfl (WS.nil [(4, _), (5, _), (6, _)] rfl ?_))))))
   refine WC.ret (⟨[_, _, _], (res_tmp rfl (res_tmp rfl (res_tmp rfl res_nil))), ?_⟩)
   exact ⟨0, 0, false, rfl, .inl ⟨List.eq_nil_of_length_eq_zero e15, rfl, rfl, rfl⟩, W.bare.take 0⟩
  ·
   refine C rfl rfl (WS.nil [(0, _), (1, _), (16, _)] rfl ?_)
   refine WC.condF rfl (WC.skip (WC.seq (WC.run (C rfl rfl (C rfl rfl ?_)))))
   refine WS.call rfl rfl rfl (page_ran W.here (key := key) (G.mono W.sub) hI (fun q => by simp [q] at *) hlen) ?_
   rintro _ h1 ⟨s19, rfl, h19, N2⟩
   have M3 := W.trans N2
   refine C rfl rfl (WS.nil [(0, _), (1, _), (4, _)] rfl ?_)
   refine WC.seq (WC.run (C rfl rfl (C rfl rfl (C rfl rfl (C rfl (op_ld (M3.sub _ _ hp) rfl rfl) (C rfl rfl ?_))))))
   have hsl : s19 - 1 < gs.length := by have := h19.1; simp only [lst, List.length_map] at this; omega
   obtain ⟨y26, hy26⟩ : ∃ y, (gs)[(s19 - 1)]? = some y := ⟨_, List.getElem?_eq_getElem (show (s19 - 1) < (gs).length by first | omega | (simp only [List.length_drop, List.length_take, List.length_append, List.length_cons, List.length_nil, List.length_singleton]; omega) | (simp only [List.length_drop, List.length_take, List.length_append, List.length_cons, List.length_nil, List.length_singleton] at *; omega))⟩
   refine WS.iaVS hO (s19 - 1) hy26 rfl rfl rfl rfl ?_
   intro b26_ o26_ ha26
   refine C rfl (op_ldH rfl (At.ld0 (ha26.mono M3.sub) rfl)) (C rfl rfl ?_)
   refine WS.call rfl rfl rfl (bsearch_ran M3.here (key := key) ((Pg.sl (hP y26 (List.mem_of_getElem? hy26))).mono M3.sub) (inv_page hI (mem_lst (List.mem_of_getElem? hy26))) (page_small hI (mem_lst (List.mem_of_getElem? hy26)))) ?_
   rintro _ h4 ⟨a29, b29, rfl, c29, hb29, N5⟩
   have M6 := M3.trans N5
   refine C rfl rfl (C rfl rfl (C rfl rfl (C rfl rfl (C rfl rfl (WS.nil [(4, _), (5, _), (6, _)] rfl ?_)))))
   refine WC.seq (WC.run (C rfl rfl (C rfl rfl (C rfl rfl (C rfl rfl (C rfl rfl (C rfl rfl (WS.nil [(4, _), (5, _), (6, _)] rfl ?_))))))))
   refine WC.ret (⟨[_, _, _], (res_tmp rfl (res_tmp rfl (res_tmp rfl res_nil))), ?_⟩)
   exact ⟨_, _, _, rfl, .inr ⟨home_eq h19, y26, hy26, c29, hb29⟩, M6.bare.take 0⟩
end Go.Proofs.Ytkfjlbdedjoojaa.Wt
namespace Go.Proofs.Ytkfjlbdedjoojaa.Wt
open Go Go.Proofs.Ytkfjlbdedjoojaa.Am Go.Proofs.Ytkfjlbdedjoojaa.IrAll
open Go.Proofs.Ytkfjlbdedjoojaa.Am.WS renaming op → C
open List renaming length_append → D
open Nat renaming le_of_ble_eq_true → J
open List renaming length_cons → U
open List renaming length_nil → X
open List renaming length_drop → Y
open List renaming length_take → AQ
open List renaming length_singleton → AX
open Go.Proofs.Ytkfjlbdedjoojaa.Am.WS renaming nil → AZ
set_option linter.unusedVariables false
set_option linter.unusedSimpArgs false
variable {h base : H} {L : List Seg} {R : List Nat}
def It.vl (x : It) : Vl := ⟨x.va, x.vn, x.ls⟩
def zeroV : Vl := ⟨[], 0, 0⟩
def getV (F : List It) (key : List UInt8) : Vl × Bool := match getF F key with | some x => (x.vl, true) | none => (zeroV, false)
theorem lst_split {gs : List Pg} {A B : List (List It)} {g : List It} (e : lst gs = A ++ g :: B) : ∃ g1 y g2, gs = g1 ++ y :: g2 ∧ lst g1 = A ∧ y.l = g ∧ lst g2 = B := by
  unfold lst at e
  obtain ⟨g1, r, e1, e2, e3⟩ := List.map_eq_append_iff.1 e
  obtain ⟨y, g2, e4, e5, e6⟩ := List.map_eq_cons_iff.1 e3
  exact ⟨g1, y, g2, by rw [e1, e4], e2, e5, e6⟩
theorem placed_split {gs : List Pg} {key : List UInt8} {pg a : Nat} {b : Bool} (hI : Inv (lst gs)) (hne : gs ≠ []) (hp : Placed gs key pg a b) : ∃ g1 y g2, gs = g1 ++ y :: g2 ∧ g1.length = pg ∧ pg = home key (lst gs) ∧ IsCut key y.l a ∧ (b = true ↔ ∃ z, y.l[a]? = some z ∧ z.ky = key) ∧ SrtI y.l ∧ (∀ x ∈ (lst g1).flatten, kL x.ky key) ∧ (∀ x ∈ (lst g2).flatten, kL key x.ky) := by
  rcases hp with ⟨q, _⟩ | ⟨hh, g, hg, hc, hb⟩
  · exact absurd q hne
  · obtain ⟨A, gl, B, e, hA, h1, h2⟩ := home_split hI (by unfold lst; simpa using hne) key
    obtain ⟨g1, y, g2, e1, e2, e3, e4⟩ := lst_split e
    have hl : g1.length = pg := by rw [hh, ← hA, ← e2]; simp [lst]
    have hy : y = g := by
      have : gs[pg]? = some y := by rw [e1, ← hl]; simp
      rw [hg] at this; cases this; rfl
    subst hy
    exact ⟨g1, y, g2, e1, hl, hh, hc, hb, inv_page hI (mem_lst (List.mem_of_getElem? hg)), by rw [e2]; exact h1, by rw [e4]; exact h2⟩
theorem placed_get {gs : List Pg} {key : List UInt8} {pg a : Nat} {b : Bool} (hI : Inv (lst gs)) (hp : Placed gs key pg a b) : (b = true → ∃ g y, gs[pg]? = some g ∧ g.l[a]? = some y ∧ getF (lst gs).flatten key = some y) ∧ (b = false → getF (lst gs).flatten key = none) := by
  by_cases hne : gs = []
  · rcases hp with ⟨_, _, _, q⟩ | ⟨_, g, hg, _⟩
    · exact ⟨fun e => by rw [q] at e; (cases e), fun _ => by rw [hne]; rfl⟩
    · rw [hne] at hg; simp at hg
  · obtain ⟨g1, y, g2, e, hl, hh, hc, hb, hs, h1, h2⟩ := placed_split hI hne hp
    have he : lst gs = lst g1 ++ y.l :: lst g2 := by rw [e]; simp [lst]
    rw [get_split he h1 h2]
    refine ⟨fun q => ?_, fun q => ?_⟩
    · obtain ⟨z, hz, ez⟩ := hb.1 q
      exact ⟨y, z, by rw [e, ← hl]; simp, hz, get_there hc hz ez⟩
    · exact get_none (cut_not hs hc fun z hz ez => by have := hb.2 ⟨z, hz, ez⟩; rw [q] at this; cases this)
theorem Get_ran (W : Mem h h [] []) {p n : Nat} {gs : List Pg} {key : List UInt8} (G : PgR h p gs n) (hI : Inv (lst gs)) (hlen : gs.length ≤ 1000000) :
    Cll tab0 58 [.pointer (some ⟨p, 0, none⟩), .string (bs key)] h (fun v h2 => v = .tuple #[.agg (Vl.cells (getV (lst gs).flatten key).1).toArray, .bool (getV (lst gs).flatten key).2] ∧ Mem h h2 [] []) := by
  have G0 := G
  obtain ⟨⟨Vo, hp, hO⟩, hP⟩ := G0
  obtain ⟨Pl, nl, rfl⟩ := hO.shape
  refine Cll.code rfl rfl ?_
  refine WC.env [(0, _), (1, _)] rfl ?_
  refine WC.seq (WC.run (WS.new W rfl ?_))
  intro p1 h2 M3
  refine C rfl rfl (AZ [(0, _), (1, _), (4, _)] rfl ?_)
  refine WC.seq (WC.run (C rfl rfl (C rfl rfl ?_)))
  refine WS.call rfl rfl rfl (place_ran M3.here (key := key) (G.mono M3.sub) hI hlen) ?_
  rintro _ h4 ⟨pg12, at12, b12, rfl, hpl12, N5⟩
  have M6 := M3.trans N5
  refine C rfl rfl (C rfl rfl (C rfl rfl (C rfl rfl (C rfl rfl (C rfl rfl (C rfl rfl (AZ [(0, _), (4, _), (6, _), (7, _), (8, _)] rfl ?_)))))))
  refine WC.seq (WC.seq (WC.run (C rfl rfl ?_)))
  cases hb1 : b12
  ·
   refine WS.opV (.bool true) rfl rfl rfl (AZ [(0, _), (4, _), (6, _), (7, _), (17, _)] rfl ?_)
   refine WC.condT rfl (WC.seq (WC.run (WS.opV (.agg #[(.string (bs ([]))), (.int .u64 (0 : Int)), (.int .u64 (0 : Int))]) rfl rfl rfl ?_)))
   refine WS.st1 (M6.focus 0 rfl) [_, _, _] [_, _, _] rfl rfl rfl rfl rfl (J rfl) (J rfl) rfl rfl ?_
   intro h7 M8
   replace M8 : Mem _ _ ([(p1, _)] :: []) _ := M8
   refine C rfl rfl (AZ [(4, _), (5, _)] rfl ?_)
   refine WC.ret (⟨[_, _], (res_cellN [_, _, _] rfl (M8.at 0 rfl) (J rfl) rfl (res_tmp rfl res_nil)), ?_⟩)
   exact ⟨by unfold getV; rw [(placed_get hI hpl12).2 (by assumption)]; rfl, M8.bare.take 0⟩
  ·
   refine WS.opV (.bool false) rfl rfl rfl (AZ [(0, _), (4, _), (6, _), (7, _), (17, _)] rfl ?_)
   refine WC.condF rfl (WC.skip (WC.seq (WC.run ?_)))
   obtain ⟨g_, y_, hg_, hy_, hf_⟩ := (placed_get hI hpl12).1 (by assumption)
   have hb_ := (List.getElem?_eq_some_iff.1 hg_).1
   refine C rfl rfl (C rfl rfl (C rfl rfl (C rfl (op_ld (M6.sub _ _ hp) rfl rfl) (C rfl rfl ?_))))
   obtain ⟨y24, hy24⟩ : ∃ y, (gs)[pg12]? = some y := ⟨_, List.getElem?_eq_getElem (show pg12 < (gs).length by first | omega | (simp only [Y, AQ, D, U, X, AX]; omega) | (simp only [Y, AQ, D, U, X, AX] at *; omega))⟩
   refine WS.iaVS hO pg12 hy24 rfl rfl rfl rfl ?_
   intro b24_ o24_ ha24
   refine C rfl (op_ldH rfl (At.ld0 (ha24.mono M6.sub) rfl)) ?_
   have e24 : y24 = g_ := Option.some.inj (hy24.symm.trans hg_)
   subst e24
   have hc_ := (List.getElem?_eq_some_iff.1 hy_).1
   refine C rfl rfl ?_
   obtain ⟨y27, hy27⟩ : ∃ y, (y24.l)[at12]? = some y := ⟨_, List.getElem?_eq_getElem (show at12 < (y24.l).length by first | omega | (simp only [Y, AQ, D, U, X, AX]; omega) | (simp only [Y, AQ, D, U, X, AX] at *; omega))⟩
   refine WS.iaVS (Pg.sl (hP y24 (List.mem_of_getElem? hy24))) at12 hy27 rfl rfl rfl rfl ?_
   intro b27_ o27_ ha27
   refine C rfl rfl (C rfl (op_ldN rfl (At.ldsub (ha27.mono M6.sub) (cs2 := [_, _, _]) rfl (J rfl))) ?_)
   refine WS.st1 (M6.focus 0 rfl) [_, _, _] [_, _, _] rfl rfl rfl rfl rfl (J rfl) (J rfl) rfl rfl ?_
   intro h9 M10
   replace M10 : Mem _ _ ([(p1, _)] :: []) _ := M10
   refine C rfl rfl (AZ [(4, _), (5, _)] rfl ?_)
   refine WC.ret (⟨[_, _], (res_cellN [_, _, _] rfl (M10.at 0 rfl) (J rfl) rfl (res_tmp rfl res_nil)), ?_⟩)
   have e27 : y27 = y_ := Option.some.inj (hy27.symm.trans hy_)
   subst e27
   exact ⟨by unfold getV; rw [hf_]; rfl, M10.bare.take 0⟩
theorem Len_ran (W : Mem h h [] []) {p n : Nat} {gs : List Pg} (G : PgR h p gs n) : Cll tab0 36 [.pointer (some ⟨p, 0, none⟩)] h (fun v h2 => v = .int .i64 (n : Int) ∧ Mem h h2 [] []) := by
  obtain ⟨⟨Vo, hp, hO⟩, hP⟩ := G
  obtain ⟨Pl, nl, rfl⟩ := hO.shape
  refine Cll.code rfl rfl ?_
  refine WC.env [(0, _)] rfl ?_
  refine WC.seq (WC.run (C rfl rfl (AZ [(0, _)] rfl ?_)))
  refine WC.seq (WC.seq (WC.run (C rfl rfl (WS.opV (.bool false) rfl rfl rfl (AZ [(0, _), (4, _)] rfl ?_)))))
  refine WC.condF rfl (WC.skip (WC.seq (WC.run (C rfl rfl (C rfl rfl (C rfl rfl (C rfl (op_ld (W.sub _ _ hp) rfl rfl) (C rfl rfl (AZ [(2, _)] rfl ?_)))))))))
  refine WC.ret (⟨[_], (res_tmp rfl res_nil), ?_⟩)
  exact ⟨rfl, W.bare.take 0⟩
def okTo (to : List UInt8) (x : It) : Prop := to = [] ∨ kL x.ky to
instance (to : List UInt8) (x : It) : Decidable (okTo to x) := by unfold okTo; infer_instance
def geF (F : List It) (fr : List UInt8) : List It := F.filter fun x => !decide (kL x.ky fr)
def rangeF (F : List It) (fr to : List UInt8) (most : Int) : List It := ((geF F fr).filter fun x => decide (okTo to x)).take most.toNat
theorem rng_stop {Fu out r : List It} {x : It} {to : List UInt8} {most : Int} (e : Fu = out ++ x :: r) (hs : SrtI Fu) (hok : ∀ x ∈ out, okTo to x) (hm : (out.length : Int) ≤ most ∨ out = []) (hx : most ≤ (out.length : Int) ∨ ¬ okTo to x) : (Fu.filter fun x => decide (okTo to x)).take most.toNat = out := by
  have f1 : out.filter (fun x => decide (okTo to x)) = out := filter_all fun x hx => decide_eq_true (hok x hx)
  rw [e, List.filter_append, f1]
  by_cases c : most ≤ (out.length : Int)
  · rcases hm with hm | hm
    · rw [show most.toNat = out.length by omega, List.take_left]
    · subst hm; rw [show most.toNat = 0 by simp at c; omega]; rfl
  · have hx2 := hx.resolve_left c
    have f2 : (x :: r).filter (fun x => decide (okTo to x)) = [] := filter_none fun y hy => decide_eq_false fun q => hx2 (by
      rcases List.mem_cons.1 hy with rfl | hy
      · exact q
      · rcases q with q | q
        · exact .inl q
        · refine .inr (kL_tr ?_ q)
          rw [e] at hs
          exact (srt_cons.1 (srt_app.1 hs).2.1).1 y hy)
    rw [f2, List.append_nil, List.take_of_length_le (by omega)]
theorem rng_end {Fu out : List It} {to : List UInt8} {most : Int} (e : Fu = out) (hok : ∀ x ∈ out, okTo to x) (hm : (out.length : Int) ≤ most ∨ out = []) : (Fu.filter fun x => decide (okTo to x)).take most.toNat = out := by
  subst e
  rw [filter_all fun x hx => decide_eq_true (hok x hx)]
  rcases hm with hm | hm
  · rw [List.take_of_length_le (by omega)]
  · rw [hm]; simp
theorem geF_len {F : List It} {key : List UInt8} : (geF F key).length ≤ F.length := List.length_filter_le ..
def rest (gs : List Pg) (i a : Nat) : List It := ((lst gs).drop i).flatten.drop a
theorem rest_at {gs : List Pg} {i a : Nat} {g : Pg} (hg : gs[i]? = some g) (ha : a ≤ g.l.length) : rest gs i a = g.l.drop a ++ rest gs (i + 1) 0 := by
  unfold rest
  obtain ⟨hi, e⟩ := List.getElem?_eq_some_iff.1 (lst_get hg)
  rw [← List.getElem_cons_drop hi, e, List.flatten_cons, List.drop_append_of_le_length ha, List.drop_zero]
theorem rest_end {gs : List Pg} {i a : Nat} (h : gs.length ≤ i) : rest gs i a = [] := by
  unfold rest
  have q : (lst gs).drop i = [] := List.drop_of_length_le (by simp only [lst, List.length_map]; omega)
  rw [q]; simp
theorem placed_rest {gs : List Pg} {key : List UInt8} {pg a : Nat} {b : Bool} (hI : Inv (lst gs)) (hp : Placed gs key pg a b) : rest gs pg a = geF (lst gs).flatten key ∧ ∀ g, gs[pg]? = some g → a ≤ g.l.length := by
  by_cases hne : gs = []
  · subst hne; exact ⟨by simp [rest, lst, geF], fun g hg => by simp at hg⟩
  · obtain ⟨g1, y, g2, e, hl, hh, hc, hb, hs, h1, h2⟩ := placed_split hI hne hp
    obtain ⟨c1, c2⟩ := cut_parts hc
    have hy : gs[pg]? = some y := by rw [e, ← hl]; simp
    refine ⟨?_, fun g hg => by rw [hy] at hg; cases hg; exact hc.1⟩
    rw [rest_at hy hc.1]
    have hr : rest gs (pg + 1) 0 = (lst g2).flatten := by
      unfold rest; rw [e, List.drop_zero]; congr 1
      have : lst (g1 ++ y :: g2) = lst g1 ++ y.l :: lst g2 := by simp [lst]
      rw [this]; exact (take_mid (by rw [← hl]; simp [lst])).2
    have hF : (lst gs).flatten = (lst g1).flatten ++ (y.l.take a ++ (y.l.drop a ++ (lst g2).flatten)) := by rw [e]; simp [lst, ← List.append_assoc (y.l.take a)]
    rw [hr, hF]; unfold geF
    rw [List.filter_append, List.filter_append, List.filter_append, filter_none (fun x hx => by simpa using h1 x hx), filter_none (fun x hx => by simpa using c1 x hx), filter_all (fun x hx => by simpa using c2 x hx), filter_all (fun x hx => by simpa using kL_asym (h2 x hx))]
    simp
set_option maxRecDepth 8000 in
theorem Range_ran (W : Mem h h [] []) {p n : Nat} {gs : List Pg} {fr to : List UInt8} {most : Int} (G : PgR h p gs n) (hI : Inv (lst gs)) (hok : POK gs) (hlen : gs.length ≤ 1000000) (hn : (lst gs).flatten.length ≤ 1000000) :
    Cll tab0 37 [.pointer (some ⟨p, 0, none⟩), .string (bs fr), .string (bs to), .int .i64 most] h (fun v h2 => ∃ S, KIt.Own v (rangeF (lst gs).flatten fr to most) S ∧ Mem h h2 [S] []) := by
  have G0 := G
  obtain ⟨⟨Vo, hp, hO⟩, hP⟩ := G0
  obtain ⟨Pl, nl, rfl⟩ := hO.shape
  refine Cll.code rfl rfl ?_
  refine WC.env [(0, _), (1, _), (2, _), (3, _)] rfl ?_
  refine WC.seq (WC.run (C rfl rfl (AZ [(0, _), (1, _), (2, _), (3, _)] rfl ?_)))
  refine WC.seq (WC.run (C rfl rfl (C rfl rfl ?_)))
  refine WS.call rfl rfl rfl (place_ran W.here (key := fr) (G.mono W.sub) hI hlen) ?_
  rintro _ h1 ⟨pg18, at18, b18, rfl, hpl18, N2⟩
  have M3 := W.trans N2
  refine C rfl rfl (C rfl rfl (C rfl rfl (C rfl rfl (C rfl rfl (C rfl rfl (C rfl rfl (AZ [(0, _), (2, _), (3, _), (9, _), (10, _)] rfl ?_)))))))
  refine WC.seq (WC.run (C rfl rfl (AZ [(0, _), (2, _), (3, _), (9, _), (10, _), (12, _)] rfl ?_)))
  refine WC.seq (WC.block ?_)
  have hplr := placed_rest hI hpl18
  have hFs : SrtI (rest gs pg18 at18) := by rw [hplr.1]; exact srt_filter hI.2 _
  obtain ⟨L4, eL6, M5⟩ := Mem.name1 ((M3.bare).nils)
  refine WC.loop (σ := Value × Seg × List It × Nat × Nat) (fun ((V_, S_, out, i, a)) => [(0, (.pointer (some ⟨p, 0, none⟩))), (2, (.string (bs to))), (3, (.int .i64 most)), (9, (.int .i64 ((i : Nat) : Int))), (10, (.int .i64 ((a : Nat) : Int))), (12, V_)]) (fun ((V_, S_, out, i, a)) hh => Mem h hh (S_ :: L4) [] ∧ KIt.Own V_ out S_ ∧ rest gs pg18 at18 = out ++ rest gs i a ∧ (∀ x ∈ out, okTo to x) ∧ ((out.length : Int) ≤ most ∨ out = []) ∧ (∀ g, gs[i]? = some g → a ≤ g.l.length) ∧ i ≤ gs.length) (fun ((V_, S_, out, i, a)) => gs.length - i) (_, _, [], pg18, at18) rfl ⟨M5, ?_⟩ ?_
  · exact ⟨.nil, rfl, fun x hx => absurd hx (by simp), .inr rfl, hplr.2, by rcases hpl18 with ⟨_, q, _⟩ | ⟨_, g, hg, _⟩; (omega); (have := (List.getElem?_eq_some_iff.1 hg).1; omega)⟩
  ·rintro ⟨V_, S_, out, i, a⟩ h7 ⟨M8, ⟨hO_, hFu, hok2, hm, hA, hi⟩⟩
   replace eL6 := eL6.symm; subst eL6
   refine WC.env [(0, _), (2, _), (3, _), (9, _), (10, _), (12, _)] rfl ?_
   refine WC.seq (WC.seq (WC.run (C rfl rfl (WS.opV (.bool true) rfl rfl rfl (C rfl rfl (C rfl rfl (C rfl rfl (C rfl rfl (C rfl rfl (C rfl (op_ld (M8.sub _ _ hp) rfl rfl) (C rfl (op_lenVS hO rfl) ?_)))))))))))
   refine WS.lssN (a := i) (b := (gs).length) rfl rfl rfl (fun e31 => ?_) (fun e31 => ?_)
   ·
    refine C rfl rfl (AZ [(0, _), (2, _), (3, _), (9, _), (10, _), (12, _), (32, _)] rfl ?_)
    refine WC.condT rfl (WC.skip (WC.seq (WC.block (WC.seq (WC.seq (WC.run (C rfl rfl (C rfl rfl (C rfl rfl (C rfl (op_ld (M8.sub _ _ hp) rfl rfl) (C rfl rfl ?_)))))))))))
    obtain ⟨y40, hy40⟩ : ∃ y, (gs)[i]? = some y := ⟨_, List.getElem?_eq_getElem (show i < (gs).length by first | omega | (simp only [Y, AQ, D, U, X, AX]; omega) | (simp only [Y, AQ, D, U, X, AX] at *; omega))⟩
    refine WS.iaVS hO i hy40 rfl rfl rfl rfl ?_
    intro b40_ o40_ ha40
    refine C rfl (op_ldH rfl (At.ld0 (ha40.mono M8.sub) rfl)) (C rfl rfl ?_)
    have ha40 := hA _ hy40
    have hd40 : (y40.l.drop a).length ≤ 1000000 := by have := page_small hI (mem_lst (List.mem_of_getElem? hy40)); rw [Y]; omega
    refine C rfl (op_slPg a (M8.sub _ _ (hP y40 (List.mem_of_getElem? hy40))) (hok y40 (List.mem_of_getElem? hy40)) ha40 rfl rfl) (C rfl (op_lenVS (slPg a _ (hP y40 (List.mem_of_getElem? hy40)) ha40) rfl) (C rfl rfl (AZ [(0, _), (2, _), (3, _), (9, _), (12, _), (43, _), (44, _), (45, _)] rfl ?_)))
    refine WC.block ?_
    obtain ⟨L9, eL11, M10⟩ := Mem.name1 (M8.bare.focus 0 rfl)
    refine WC.loop (σ := Value × Seg × List It × Nat) (fun ((V2, S2, out2, k)) => [(0, (.pointer (some ⟨p, 0, none⟩))), (2, (.string (bs to))), (3, (.int .i64 most)), (9, (.int .i64 ((i : Nat) : Int))), (12, V2), (43, (.slice (some ⟨y40.b, 0 + a * 4, none⟩) (y40.l.drop a).length (2 * (y40.c / 2 - a) + y40.c % 2))), (44, (.int .i64 ((((y40.l.drop a)).length : Nat) : Int))), (45, (.int .i64 ((k : Nat) : Int)))]) (fun ((V2, S2, out2, k)) hh => Mem h hh (S2 :: L9) [] ∧ KIt.Own V2 out2 S2 ∧ out2 = out ++ (y40.l.drop a).take k ∧ (∀ x ∈ out2, okTo to x) ∧ ((out2.length : Int) ≤ most ∨ out2 = []) ∧ k ≤ (y40.l.drop a).length) (fun ((V2, S2, out2, k)) => (y40.l.drop a).length - k) (_, _, out, 0) rfl ⟨M10, ?_⟩ ?_
    · exact ⟨hO_, by simp, hok2, hm, by omega⟩
    ·rintro ⟨V2, S2, out2, k⟩ h12 ⟨M13, ⟨hO2, hE2, hok3, hm2, hk⟩⟩
     replace eL11 := eL11.symm; subst eL11
     refine WC.env [(0, _), (2, _), (3, _), (9, _), (12, _), (43, _), (44, _), (45, _)] rfl ?_
     refine WC.seq (WC.run (WS.lssN (a := k) (b := ((y40.l.drop a)).length) rfl rfl rfl (fun e46 => ?_) (fun e46 => ?_)))
     ·
      refine AZ [(0, _), (2, _), (3, _), (9, _), (12, _), (43, _), (44, _), (45, _), (46, _)] rfl ?_
      refine WC.seq (WC.condT rfl (WC.skip (WC.seq (WC.block (WC.seq (WC.run ?_))))))
      obtain ⟨y47, hy47⟩ : ∃ y, ((y40.l.drop a))[k]? = some y := ⟨_, List.getElem?_eq_getElem (show k < ((y40.l.drop a)).length by first | omega | (simp only [Y, AQ, D, U, X, AX]; omega) | (simp only [Y, AQ, D, U, X, AX] at *; omega))⟩
      refine WS.iaVS (slPg a _ (hP y40 (List.mem_of_getElem? hy40)) ha40) k hy47 rfl rfl rfl rfl ?_
      intro b47_ o47_ ha47
      refine C rfl (op_ldAt rfl (ha47.mono M13.sub) rfl) ?_
      refine WS.new M13 rfl ?_
      intro p14 h15 M16
      refine WS.st1 (M16.focus 0 rfl) [_, _, _, _] [_, _, _, _] rfl rfl rfl rfl rfl (J rfl) (J rfl) rfl rfl ?_
      intro h17 M18
      replace M18 : Mem _ _ ([(p14, _)] :: S2 :: []) _ := M18
      refine AZ [(0, _), (2, _), (3, _), (9, _), (12, _), (14, _), (43, _), (44, _), (45, _)] rfl ?_
      refine WC.seq (WC.seq (WC.run (C rfl rfl (C rfl (op_lenVO hO2 rfl) (C rfl rfl ?_)))))
      refine WS.geq (a := (((out2).length : Nat) : Int)) (b := most) rfl rfl rfl (fun e52 => ?_) (fun e52 => ?_)
      ·
       refine C rfl rfl (WS.off rfl (WS.off rfl (WS.off rfl (WS.off rfl (WS.off rfl (WS.off rfl (WS.off rfl (WS.off rfl (C rfl rfl ?_)))))))))
       refine AZ [(0, _), (2, _), (3, _), (9, _), (12, _), (14, _), (43, _), (44, _), (45, _), (62, _)] rfl ?_
       refine WC.condT rfl (WC.seq (WC.run (C rfl rfl (C rfl rfl (AZ [(8, _)] rfl ?_)))))
       refine WC.ret (⟨[_], (res_tmp rfl res_nil), ?_⟩)
       have hs47 : rest gs pg18 at18 = out2 ++ y47 :: ((y40.l.drop a).drop (k + 1) ++ rest gs (i + 1) 0) := by rw [hFu, rest_at hy40 ha40, hE2, List.append_assoc]; congr 1; rw [← List.cons_append, ← (List.getElem?_eq_some_iff.1 hy47).2, List.getElem_cons_drop, ← List.append_assoc, List.take_append_drop]
       have q9 := rng_stop (to := to) (most := most) hs47 hFs hok3 hm2 (by first | exact Or.inl (by assumption) | exact Or.inr (fun q => by rcases q with q | q <;> contradiction))
       rw [hplr.1] at q9
       rw [← q9] at hO2
       exact ⟨S2, hO2, ((M18.bare.focus 1 rfl).take 1)⟩
      ·
       refine C rfl rfl (C rfl rfl ?_)
       refine WS.sneq (l := to) (m := []) rfl rfl rfl (fun e55 => ?_) (fun e55 => ?_)
       ·
        refine C rfl rfl (C rfl rfl (C rfl (op_ld (M18.at 0 rfl) rfl rfl) (C rfl rfl ?_)))
        refine WS.sgeq (l := y47.ky) (m := to) rfl rfl rfl (fun e60 => ?_) (fun e60 => ?_)
        ·
         refine C rfl rfl (C rfl rfl (AZ [(0, _), (2, _), (3, _), (9, _), (12, _), (14, _), (43, _), (44, _), (45, _), (62, _)] rfl ?_))
         refine WC.condT rfl (WC.seq (WC.run (C rfl rfl (C rfl rfl (AZ [(8, _)] rfl ?_)))))
         refine WC.ret (⟨[_], (res_tmp rfl res_nil), ?_⟩)
         have hs47 : rest gs pg18 at18 = out2 ++ y47 :: ((y40.l.drop a).drop (k + 1) ++ rest gs (i + 1) 0) := by rw [hFu, rest_at hy40 ha40, hE2, List.append_assoc]; congr 1; rw [← List.cons_append, ← (List.getElem?_eq_some_iff.1 hy47).2, List.getElem_cons_drop, ← List.append_assoc, List.take_append_drop]
         have q9 := rng_stop (to := to) (most := most) hs47 hFs hok3 hm2 (by first | exact Or.inl (by assumption) | exact Or.inr (fun q => by rcases q with q | q <;> contradiction))
         rw [hplr.1] at q9
         rw [← q9] at hO2
         exact ⟨S2, hO2, ((M18.bare.focus 1 rfl).take 1)⟩
        ·
         refine C rfl rfl (C rfl rfl (AZ [(0, _), (2, _), (3, _), (9, _), (12, _), (14, _), (43, _), (44, _), (45, _), (62, _)] rfl ?_))
         refine WC.condF rfl (WC.skip (WC.run (C rfl rfl (C rfl (op_lds [_, _, _, _] (M18.at 0 rfl) rfl (J rfl) rfl) ?_))))
         refine WS.bsl M18 [_, _, _, _] rfl rfl rfl rfl ?_
         intro p19 h20 M21
         refine WS.app (l := out2) (m := [y47]) (hO2) (M21.focus 2 rfl) (Row.Src.one (K := KIt) (m := [y47]) (M21.at 0 rfl)) rfl (by have h9 := congrArg List.length (hplr.1.symm.trans hFu); have h0 := geF_len (F := (lst gs).flatten) (key := fr); have h7 := congrArg List.length hE2; have h6 := congrArg List.length (rest_at hy40 ha40); simp only [D, AQ, Y, U, X] at h9 h7 h6 ⊢; omega) (by have h9 := congrArg List.length (hplr.1.symm.trans hFu); have h0 := geF_len (F := (lst gs).flatten) (key := fr); have h7 := congrArg List.length hE2; have h6 := congrArg List.length (rest_at hy40 ha40); simp only [D, AQ, Y, U, X] at h9 h7 h6 ⊢; omega) rfl rfl rfl ?_
         intro V22 S23 h24 O25 M26
         obtain ⟨P27, rfl⟩ := Row.Own.shape O25
         refine C rfl rfl (AZ [(0, _), (2, _), (3, _), (9, _), (12, _), (43, _), (44, _), (45, _)] rfl ?_)
         refine WC.run (WS.opV (.int .i64 (((k + 1) : Nat) : Int)) rfl rfl (add_i64 (a := k) (b := 1) (by omega)) (C rfl rfl (AZ [(0, _), (2, _), (3, _), (9, _), (12, _), (43, _), (44, _), (45, _)] rfl ?_)))
         refine ⟨((.slice P27 ((out2 ++ [y47])).length (2 * ((out2 ++ [y47])).length)), S23, out2 ++ [y47], k + 1), rfl, ⟨((M26.bare.focus 0 rfl).take 1), ?_⟩, ?_⟩
         · exact ⟨O25, by rw [hE2, List.append_assoc, List.take_add_one, hy47]; rfl, fun x hx => by rcases List.mem_append.1 hx with q | q; (exact hok3 x q); (rw [List.mem_singleton] at q; subst q; first | exact Or.inl (by assumption) | exact Or.inr (by assumption)), .inl (by simp only [D, U, X]; omega), by omega⟩
         · simp only []; omega
       ·
        refine C rfl rfl (WS.off rfl (WS.off rfl (WS.off rfl (WS.off rfl (C rfl rfl (C rfl rfl (AZ [(0, _), (2, _), (3, _), (9, _), (12, _), (14, _), (43, _), (44, _), (45, _), (62, _)] rfl ?_)))))))
        refine WC.condF rfl (WC.skip (WC.run (C rfl rfl (C rfl (op_lds [_, _, _, _] (M18.at 0 rfl) rfl (J rfl) rfl) ?_))))
        refine WS.bsl M18 [_, _, _, _] rfl rfl rfl rfl ?_
        intro p28 h29 M30
        refine WS.app (l := out2) (m := [y47]) (hO2) (M30.focus 2 rfl) (Row.Src.one (K := KIt) (m := [y47]) (M30.at 0 rfl)) rfl (by have h9 := congrArg List.length (hplr.1.symm.trans hFu); have h0 := geF_len (F := (lst gs).flatten) (key := fr); have h7 := congrArg List.length hE2; have h6 := congrArg List.length (rest_at hy40 ha40); simp only [D, AQ, Y, U, X] at h9 h7 h6 ⊢; omega) (by have h9 := congrArg List.length (hplr.1.symm.trans hFu); have h0 := geF_len (F := (lst gs).flatten) (key := fr); have h7 := congrArg List.length hE2; have h6 := congrArg List.length (rest_at hy40 ha40); simp only [D, AQ, Y, U, X] at h9 h7 h6 ⊢; omega) rfl rfl rfl ?_
        intro V31 S32 h33 O34 M35
        obtain ⟨P36, rfl⟩ := Row.Own.shape O34
        refine C rfl rfl (AZ [(0, _), (2, _), (3, _), (9, _), (12, _), (43, _), (44, _), (45, _)] rfl ?_)
        refine WC.run (WS.opV (.int .i64 (((k + 1) : Nat) : Int)) rfl rfl (add_i64 (a := k) (b := 1) (by omega)) (C rfl rfl (AZ [(0, _), (2, _), (3, _), (9, _), (12, _), (43, _), (44, _), (45, _)] rfl ?_)))
        refine ⟨((.slice P36 ((out2 ++ [y47])).length (2 * ((out2 ++ [y47])).length)), S32, out2 ++ [y47], k + 1), rfl, ⟨((M35.bare.focus 0 rfl).take 1), ?_⟩, ?_⟩
        · exact ⟨O34, by rw [hE2, List.append_assoc, List.take_add_one, hy47]; rfl, fun x hx => by rcases List.mem_append.1 hx with q | q; (exact hok3 x q); (rw [List.mem_singleton] at q; subst q; first | exact Or.inl (by assumption) | exact Or.inr (by assumption)), .inl (by simp only [D, U, X]; omega), by omega⟩
        · simp only []; omega
     ·
      refine AZ [(0, _), (2, _), (3, _), (9, _), (12, _), (43, _), (44, _), (45, _), (46, _)] rfl ?_
      refine WC.seq (WC.condF rfl (WC.exit ?_))
      refine WC.run (C rfl rfl (AZ [(0, _), (2, _), (3, _), (9, _), (10, _), (12, _)] rfl ?_))
      refine WC.run (C rfl rfl (WS.opV (.int .i64 (((i + 1) : Nat) : Int)) rfl rfl (add_i64 (a := i) (b := 1) (by omega)) (C rfl rfl (AZ [(0, _), (2, _), (3, _), (9, _), (10, _), (12, _)] rfl ?_))))
      refine ⟨(V2, S2, out2, i + 1, 0), rfl, ⟨((M13.bare.focus 0 rfl).take 1), ?_⟩, ?_⟩
      · exact ⟨hO2, by rw [hFu, rest_at hy40 ha40, hE2, List.take_of_length_le (by omega), List.append_assoc], hok3, hm2, fun g _ => Nat.zero_le _, by omega⟩
      · simp only []; omega
   ·
    refine C rfl rfl (AZ [(0, _), (2, _), (3, _), (9, _), (10, _), (12, _), (32, _)] rfl ?_)
    refine WC.condF rfl (WC.exit ?_)
    refine WC.seq (WC.run (C rfl rfl (C rfl rfl (AZ [(8, _)] rfl ?_))))
    refine WC.ret (⟨[_], (res_tmp rfl res_nil), ?_⟩)
    have q9 := rng_end (Fu := rest gs pg18 at18) (to := to) (most := most) (by rw [hFu, rest_end (by omega), List.append_nil]) hok2 hm
    rw [hplr.1] at q9
    rw [← q9] at hO_
    exact ⟨S_, hO_, ((M8.bare.focus 0 rfl).take 1)⟩
end Go.Proofs.Ytkfjlbdedjoojaa.Wt
namespace Go.Proofs.Ytkfjlbdedjoojaa.Wt
open Go Go.Proofs.Ytkfjlbdedjoojaa.Am Go.Proofs.Ytkfjlbdedjoojaa.IrAll
set_option linter.unusedVariables false
set_option linter.unusedSimpArgs false
variable {h base : H} {L : List Seg} {R : List Nat}
theorem New_ran (W : Mem h h [] []) : Cll tab0 34 [] h (fun v h2 => ∃ p S, PgSt p [] S ∧ v = .pointer (some ⟨p, 0, none⟩) ∧ Mem h h2 [S] []) := by
  refine Cll.code rfl rfl ?_
  refine WC.env [] rfl ?_
  refine WC.seq (WC.run (WS.op rfl rfl (WS.nil [] rfl ?_)))
  refine WC.seq (WC.run (WS.opV (.agg #[(.slice none 0 0), (.int .i64 (0 : Int))]) rfl rfl rfl ?_))
  refine WS.box W [_, _] rfl rfl rfl rfl ?_
  intro p1 h2 M3
  refine WS.op rfl rfl (WS.nil [(0, _)] rfl ?_)
  refine WC.ret (⟨[_], (res_tmp rfl res_nil), ?_⟩)
  exact ⟨p1, _, ⟨_, [], [], rfl, .nil, (fun g hg => absurd hg (by simp)), rfl⟩, rfl, ((M3.bare.focus 0 rfl).take 1)⟩
theorem WS.appNew {α : Type} {K : Row α} {e : Env} {m : List α} {y : Value} {tab : Nat → Option FD} {rb : Nat} {d : Option Nat} {g : Option (Nat × Bool)} {ss : List Step} {q : Env → H → Prop} {b ee : Nat} {x z : Operand} {bytes es : Nat} (M : Mem base h ([(b, ⟨[], ee, false⟩)] :: L) R) (A : K.Src h y m) (hm : m ≠ []) (hes : es = K.n) (hb : m.length * bytes ≤ 140737488355328) (hn : m.length ≤ 4398046511104) (hg : gd e g = some true) (hx : ev e x = some (.slice (some ⟨b, 0, none⟩) 0 1)) (hy : ev e z = some y)
    (k : ∀ r h1, Mem base h1 ([(r, ⟨K.flat m, K.n, false⟩)] :: [(b, ⟨[], ee, false⟩)] :: L) R → WS tab rb ss (put e d (.slice (some ⟨r, 0, none⟩) m.length (2 * m.length))) h1 q) : WS tab rb (.op d g (.app es bytes x z) :: ss) e h q := by
  subst hes
  obtain ⟨a1, a2⟩ := A
  have hall := plain1_one (K.flat_plain m)
  have hml : 0 < m.length := List.length_pos_iff.2 hm
  refine .op hg (op_app hx hy (r := (.slice (some ⟨h.next, 0, none⟩) m.length (2 * m.length), h.alloc ⟨K.flat m, K.n, false⟩)) ?_) (k _ _ (M.alloc _))
  simp only [appE, a1, a2, Nat.zero_add, Nat.zero_mul]
  rw [if_neg (show ¬ m.length ≤ 1 / 2 by omega), if_pos ⟨hb, hn, hall⟩]
  show (match h.lds ⟨b, 0, none⟩ 0 with | none => none | some old => _) = _
  have h0 : h.lds ⟨b, 0, none⟩ 0 = some [] := rfl
  rw [h0]; rfl
theorem clone_ran (W : Mem h h [] []) {V : Value} {l : List It} (A : KIt.Sl h V l) (hne : l ≠ []) (hl : l.length ≤ 1000000) : Cll tab0 64 [V] h (fun v h2 => ∃ q, v = .slice (some ⟨q, 0, none⟩) l.length (2 * l.length) ∧ Mem h h2 [[(q, ⟨KIt.flat l, 4, false⟩)]] []) := by
  obtain ⟨b, o, c, rfl, ha⟩ : ∃ b o c, V = .slice (some ⟨b, o, none⟩) l.length c ∧ At h b o (KIt.flat l) := by
    cases A with
    | nil => exact absurd rfl hne
    | emp a c => exact absurd rfl hne
    | row b o c l ha => exact ⟨b, o, c, rfl, ha⟩
  refine Cll.code rfl rfl ?_
  refine WC.env [(0, _)] rfl ?_
  refine WC.seq (WC.run (WS.op rfl rfl (WS.nil [(0, _)] rfl ?_)))
  refine WC.seq (WC.seq (WC.run (WS.op rfl rfl (WS.opV (.bool false) rfl rfl rfl (WS.nil [(0, _), (4, _)] rfl ?_)))))
  refine WC.condF rfl (WC.skip (WC.seq (WC.run (WS.bsl W [] rfl rfl rfl rfl ?_))))
  intro p1 h2 M3
  refine WS.op rfl rfl ?_
  refine WS.appNew (K := KIt) (m := l) (M3.focus 0 rfl) (Row.Src.sl (A.mono M3.sub)) hne rfl (by omega) (by omega) rfl rfl rfl ?_
  intro r_ h4 M5
  replace M5 : Mem _ _ ([(r_, _)] :: [(p1, _)] :: []) _ := M5
  refine WS.op rfl rfl (WS.nil [(2, _)] rfl ?_)
  refine WC.ret (⟨[_], (res_tmp rfl res_nil), ?_⟩)
  exact ⟨_, rfl, ((M5.bare.focus 0 rfl).take 1)⟩
end Go.Proofs.Ytkfjlbdedjoojaa.Wt
namespace Go.Proofs.Ytkfjlbdedjoojaa.Wt
open Go Go.Proofs.Ytkfjlbdedjoojaa.Am Go.Proofs.Ytkfjlbdedjoojaa.IrAll
open Nat renaming le_of_ble_eq_true → C
open Go.Proofs.Ytkfjlbdedjoojaa.Am.WS renaming op → D
set_option linter.unusedVariables false
set_option linter.unusedSimpArgs false
variable {h base : H} {L : List Seg} {R : List Nat}
theorem pg_all {g1 g2 : List Pg} {y : Pg} (hy : h.get y.b = some ⟨KIt.flat y.l, 4, false⟩) (ho : ∀ p ∈ pseg g1 ++ pseg g2, h.get p.1 = some p.2) : ∀ g ∈ g1 ++ y :: g2, h.get g.b = some ⟨KIt.flat g.l, 4, false⟩ := fun g hg => by
  rcases List.mem_append.1 hg with q | q
  · exact ho (g.b, ⟨KIt.flat g.l, 4, false⟩) (List.mem_append_left _ (List.mem_map.2 ⟨g, q, rfl⟩))
  · rcases List.mem_cons.1 q with rfl | q
    · exact hy
    · exact ho (g.b, ⟨KIt.flat g.l, 4, false⟩) (List.mem_append_right _ (List.mem_map.2 ⟨g, q, rfl⟩))
theorem take_mid1 {α : Type} {A B : List α} {g : α} : (A ++ g :: B).take (A.length + 1) = A ++ [g] := by
  rw [show A ++ g :: B = (A ++ [g]) ++ B by simp, List.take_left' (by simp)]
theorem lst_mid (g1 g2 : List Pg) (y : Pg) : lst (g1 ++ y :: g2) = lst g1 ++ y.l :: lst g2 := by simp [lst]
theorem lst_len (g1 : List Pg) : (lst g1).length = g1.length := by simp [lst]
theorem placed_at {g1 g2 : List Pg} {y : Pg} {key : List UInt8} {pg a : Nat} {b : Bool} (hh : g1.length = home key (lst (g1 ++ y :: g2))) (hp : Placed (g1 ++ y :: g2) key pg a b) : pg = g1.length ∧ IsCut key y.l a ∧ (b = true ↔ ∃ z, y.l[a]? = some z ∧ z.ky = key) := by
  rcases hp with ⟨q, _⟩ | ⟨q, g, hg, hc, hb⟩
  · simp at q
  · rw [← hh] at q
    subst q
    have : (g1 ++ y :: g2)[g1.length]? = some y := by simp
    rw [this] at hg; cases hg
    exact ⟨rfl, hc, hb⟩
theorem pages_le {L : List (List It)} (h : Inv L) : L.length ≤ L.flatten.length := by
  have : ∀ L : List (List It), (∀ g ∈ L, g ≠ []) → L.length ≤ L.flatten.length := by
    intro L
    induction L with
    | nil => intro _; simp
    | cons g L ih =>
      intro hg
      have h1 := ih fun x hx => hg x (List.mem_cons_of_mem _ hx)
      have h2 := List.length_pos_iff.2 (hg g (List.mem_cons_self ..))
      simp only [List.length_cons, List.flatten_cons, List.length_append]; omega
  exact this L fun g hg => (h.1 g hg).1
theorem putL_mid {g1 g2 : List Pg} {y : Pg} {it : It} (hh : g1.length = home it.ky (lst (g1 ++ y :: g2))) : putL (lst (g1 ++ y :: g2)) it = if (putF y.l it).length ≤ 8 then lst g1 ++ putF y.l it :: lst g2 else lst g1 ++ (putF y.l it).take 5 :: (putF y.l it).drop 5 :: lst g2 := by
  unfold putL
  rw [← hh, lst_mid, if_neg (by simp), getD_mid (lst_len g1), set_mid (lst_len g1), (take_mid (lst_len g1)).1, (take_mid (lst_len g1)).2]
theorem pok_mid {g1 g2 : List Pg} {y : Pg} (h : POK (g1 ++ y :: g2)) {m : List Pg} (hm : ∀ g ∈ m, g.c / 2 = g.l.length) : POK (g1 ++ m ++ g2) := fun g hg => by
  rcases List.mem_append.1 hg with q | q
  · rcases List.mem_append.1 q with q | q
    · exact h g (List.mem_append_left _ q)
    · exact hm g q
  · exact h g (List.mem_append_right _ (List.mem_cons_of_mem _ q))
theorem Mem.joinPg {S T : Seg} {g1 g2 : List Pg} {y : Pg} (M : Mem base h (S :: T :: [(y.b, ⟨KIt.flat y.l, 4, false⟩)] :: (pseg g1 ++ pseg g2) :: L) R) : Mem base h (S :: T :: pseg (g1 ++ y :: g2) :: L) R := by
  refine M.perm ?_
  simp only [List.flatten_cons, pseg, List.map_append, List.map_cons, List.cons_append, List.nil_append, List.append_assoc]
  refine List.Perm.append_left _ (List.Perm.append_left _ ?_)
  exact List.perm_middle
theorem Mem.joinPg2 {S T : Seg} {g1 g2 : List Pg} {y z : Pg} (M : Mem base h (S :: T :: [(y.b, ⟨KIt.flat y.l, 4, false⟩)] :: [(z.b, ⟨KIt.flat z.l, 4, false⟩)] :: (pseg g1 ++ pseg g2) :: L) R) : Mem base h (S :: T :: pseg (g1 ++ y :: z :: g2) :: L) R := by
  have := (Mem.joinPg (y := z) (g1 := g1) (g2 := g2) (S := S ++ T) (T := [(y.b, ⟨KIt.flat y.l, 4, false⟩)]) (L := L) (M.perm (by simp)))
  refine this.perm ?_
  simp only [List.flatten_cons, pseg, List.map_append, List.map_cons, List.cons_append, List.nil_append, List.append_assoc]
  refine List.Perm.append_left _ (List.Perm.append_left _ ?_)
  exact List.perm_middle
theorem Mem.splitPg {S T : Seg} {g1 g2 : List Pg} {y : Pg} (M : Mem base h (S :: T :: pseg (g1 ++ y :: g2) :: L) R) : Mem base h (S :: T :: [(y.b, ⟨KIt.flat y.l, 4, false⟩)] :: (pseg g1 ++ pseg g2) :: L) R := by
  refine M.perm ?_
  simp only [List.flatten_cons, pseg, List.map_append, List.map_cons, List.cons_append, List.nil_append, List.append_assoc]
  refine List.Perm.append_left _ (List.Perm.append_left _ ?_)
  exact List.perm_middle.symm
def After (p : Nat) (base h2 : H) (L : List Seg) (LL : List (List It)) : Prop := ∃ Vo So gs, Outer Vo gs So ∧ POK gs ∧ lst gs = LL ∧ Mem base h2 ([(p, ⟨[Vo, .int .i64 ((LL.flatten.length : Nat) : Int)], 0, false⟩)] :: So :: pseg gs :: L) []
theorem After.mk' {p po c n : Nat} {gs : List Pg} {V : Value} {cs : List Value} {LL : List (List It)} (hV : V = .slice (some ⟨po, 0, none⟩) gs.length c) (hc : c / 2 = gs.length) (hok : POK gs) (hl : lst gs = LL) (hn : n = (lst gs).flatten.length) (hcs : cs = KPg.flat gs) (M : Mem base h ([(p, ⟨[V, .int .i64 (n : Int)], 0, false⟩)] :: [(po, ⟨cs, 1, false⟩)] :: pseg gs :: L) []) : After p base h L LL := by
  subst hV hcs hn hl
  exact ⟨_, _, gs, .row po gs c hc, hok, rfl, M⟩
theorem flat_val {g1 g2 : List Pg} {y z : Pg} (h : y.val = z.val) : KPg.flat (g1 ++ y :: g2) = KPg.flat (g1 ++ z :: g2) := by
  rw [KPg.flat_append, KPg.flat_append, KPg.flat_cons, KPg.flat_cons]
  show _ ++ ([y.val] ++ _) = _ ++ ([z.val] ++ _)
  rw [h]
theorem sl_take {α : Type} {K : Row α} {p c : Nat} {l : List α} {es : Nat} {ro : Bool} (i : Nat) (hb : h.get p = some ⟨K.flat l, es, ro⟩) (hi : i ≤ l.length) : K.Sl h (.slice (some ⟨p, 0, none⟩) (l.take i).length c) (l.take i) := by
  refine .row p 0 c (l.take i) ⟨_, hb, ?_, ?_⟩
  · rw [K.flat_length, K.flat_length, List.length_take, Nat.min_eq_left hi, Nat.zero_add]; exact Nat.mul_le_mul_right _ hi
  · have h1 : K.flat l = K.flat (l.take i) ++ K.flat (l.drop i) := by rw [← K.flat_append, List.take_append_drop]
    simp only [List.drop_zero]; rw [h1, List.take_left]
set_option maxRecDepth 8000 in
set_option maxHeartbeats 1000000 in
theorem put1_ran {p po co n : Nat} {g1 g2 : List Pg} {y : Pg} {key : List UInt8} {v : Vl} (M : Mem base h ([(p, ⟨[.slice (some ⟨po, 0, none⟩) (g1 ++ y :: g2).length co, .int .i64 (n : Int)], 0, false⟩)] :: [(po, ⟨KPg.flat (g1 ++ y :: g2), 1, false⟩)] :: [(y.b, ⟨KIt.flat y.l, 4, false⟩)] :: (pseg g1 ++ pseg g2) :: L) []) (hI : Inv (lst (g1 ++ y :: g2))) (hco : co / 2 = (g1 ++ y :: g2).length) (hok : POK (g1 ++ y :: g2)) (hh : g1.length = home key (lst (g1 ++ y :: g2))) (hn : n = (lst (g1 ++ y :: g2)).flatten.length) (hn2 : n ≤ 900000) (hA : ∀ x ∈ (lst g1).flatten, kL x.ky key) (hB : ∀ x ∈ (lst g2).flatten, kL key x.ky) :
    Cll tab0 56 [.pointer (some ⟨p, 0, none⟩), .string (bs key), .agg (Vl.cells v).toArray] h (fun w h2 => w = .tuple #[.agg (Vl.cells (getV (lst (g1 ++ y :: g2)).flatten key).1).toArray, .bool (getV (lst (g1 ++ y :: g2)).flatten key).2] ∧ After p base h2 L (putL (lst (g1 ++ y :: g2)) ⟨key, v.val, v.ver, v.lea⟩)) := by
  have hlen : (g1 ++ y :: g2).length ≤ 1000000 := by have := pages_le hI; rw [lst_len] at this; omega
  have hyl := hI.1 y.l (mem_lst (g := y) (by simp))
  have hys := inv_page hI (mem_lst (g := y) (gs := g1 ++ y :: g2) (by simp))
  have hyk : (g1 ++ y :: g2)[g1.length]? = some y := by simp
  have hyc := hok y (by simp)
  have hg1 : g1.length < (g1 ++ y :: g2).length := by simp
  have hPM := putL_mid (y := y) (g1 := g1) (g2 := g2) (it := ⟨key, v.val, v.ver, v.lea⟩) hh
  refine Cll.code rfl rfl ?_
  refine WC.env [(0, _), (1, _), (2, _)] rfl ?_
  refine WC.seq (WC.run (WS.box M [_, _, _] rfl rfl rfl rfl ?_))
  intro p1 h2 M3
  refine WS.new M3 rfl ?_
  intro p4 h5 M6
  refine D rfl rfl (WS.nil [(0, _), (1, _), (5, _), (6, _)] rfl ?_)
  refine WC.seq (WC.seq (WC.run (D rfl rfl (WS.opV (.bool false) rfl rfl rfl (WS.nil [(0, _), (1, _), (5, _), (6, _), (14, _)] rfl ?_)))))
  refine WC.condF rfl (WC.skip (WC.seq (WC.run (D rfl rfl (D rfl rfl ?_)))))
  refine WS.call rfl rfl rfl (place_ran M6.here (key := key) (gs := (g1 ++ y :: g2)) (p := p) ⟨⟨_, (M6.at 2 rfl), sl_all (M6.at 3 rfl)⟩, pg_all (M6.at 4 rfl) (Mem.owni M6 5 rfl)⟩ hI hlen) ?_
  rintro _ h7 ⟨pg, a, b, rfl, hpl, N8⟩
  have M9 := M6.trans N8
  obtain ⟨rfl, hct, hbt⟩ := placed_at hh hpl
  have hal := hct.1
  refine D rfl rfl (D rfl rfl (D rfl rfl (D rfl rfl (D rfl rfl (D rfl rfl (D rfl rfl (WS.nil [(0, _), (1, _), (5, _), (6, _), (8, _), (9, _), (10, _)] rfl ?_)))))))
  refine WC.seq (WC.seq (WC.run (D rfl rfl (WS.nil [(0, _), (1, _), (5, _), (6, _), (8, _), (9, _), (23, _)] rfl ?_))))
  cases hb1 : b
  ·
   refine WC.condF rfl (WC.skip (WC.seq (WC.run (D rfl rfl (D rfl rfl (D rfl rfl (D rfl (op_ld (M9.at 2 rfl) rfl rfl) (WS.opV (.int .i64 (((n + 1) : Nat) : Int)) rfl rfl (add_i64 (a := n) (b := 1) (by omega)) (D rfl rfl (D rfl rfl ?_))))))))))
   refine WS.st1 (M9.focus 2 rfl) [_] [_, _] rfl rfl rfl rfl rfl (C rfl) (C rfl) rfl rfl ?_
   intro h10 M11
   replace M11 : Mem _ _ ([(p, _)] :: [(p4, _)] :: [(p1, _)] :: [(po, _)] :: [(y.b, _)] :: (pseg g1 ++ pseg g2) :: L) _ := M11
   refine WS.nil [(0, _), (1, _), (5, _), (6, _), (8, _), (9, _)] rfl ?_
   refine WC.seq (WC.seq (WC.run (D rfl rfl (D rfl rfl (D rfl rfl (D rfl (op_ld (M11.at 0 rfl) rfl rfl) (D rfl rfl ?_)))))))
   refine WS.eqlN (a := (g1 ++ y :: g2).length) (b := 0) rfl rfl rfl (fun e59 => ?_) (fun e59 => ?_)
   ·
    exact absurd e59 (by omega)
   ·
    refine WS.nil [(0, _), (1, _), (5, _), (6, _), (8, _), (9, _), (59, _)] rfl ?_
    refine WC.condF rfl (WC.skip (WC.seq (WC.draw M11 [11] rfl ?_)))
    intro rb12 h13 M14
    refine D rfl rfl (D rfl rfl (D rfl rfl (D rfl (op_ld (M14.at 0 rfl) rfl rfl) (D rfl rfl (D rfl (op_iaV2 g1.length rfl rfl (by exact (List.getElem?_eq_some_iff.1 hyk).1)) (D rfl (op_ldH rfl (Row.ld (K := KPg) (k := 0) (M14.at 3 rfl) hyk rfl)) ?_))))))
    have hnt : ∀ z, y.l[a]? = some z → z.ky ≠ key := fun z hz ez => by have := hbt.2 ⟨z, hz, ez⟩; simp_all
    refine D rfl rfl (D rfl rfl (D rfl (op_lds [_, _, _] (M14.at 2 rfl) rfl (C rfl) rfl) (WS.opV (.agg #[(.string (bs key)), (.string (bs v.val)), (.int .u64 (((v.ver).toNat : Nat) : Int)), (.int .u64 (((v.lea).toNat : Nat) : Int))]) rfl rfl rfl ?_)))
    refine WS.bslA M14 [_, _, _, _] 0 rfl rfl rfl rfl rfl ?_
    intro h16 M17
    refine WS.call rfl rfl rfl (ins_call (K := KIt) (l := y.l) (i := a) (x := (⟨key, v.val, v.ver, v.lea⟩ : It)) rfl rfl ((M17.bare.focus 0 rfl).focus 5 rfl) hyc hal (by omega)) ?_
    rintro _ h18 ⟨q81, l81, hl81, rfl, M19⟩
    replace M19 : Mem _ _ ([(q81, _)] :: [(p, _)] :: [(p4, _)] :: [(p1, _)] :: [(po, _)] :: (pseg g1 ++ pseg g2) :: L) _ := M19
    have hl8 : l81.length = y.l.length + 1 := by rw [hl81]; simp; omega
    refine D rfl rfl (WS.nil [(0, _), (6, _), (8, _), (11, _)] rfl ?_)
    refine WC.seq (WC.run (D rfl rfl (D rfl rfl (D rfl rfl (D rfl (op_ld (M19.bare.at 1 rfl) rfl rfl) (D rfl rfl (D rfl rfl (D rfl (op_iaV2 g1.length rfl rfl (by exact (List.getElem?_eq_some_iff.1 hyk).1)) ?_))))))))
    refine WS.stN (K := KPg) (y' := (⟨q81, 2 * l81.length, l81⟩ : Pg)) (M19.bare.focus 4 rfl) (List.getElem?_eq_some_iff.1 hyk).1 rfl rfl rfl rfl rfl ?_
    intro h20 M21
    rw [set_mid rfl] at M21
    replace M21 : Mem _ _ ([(po, _)] :: [(q81, _)] :: [(p, _)] :: [(p4, _)] :: [(p1, _)] :: (pseg g1 ++ pseg g2) :: L) _ := M21
    refine WS.nil [(0, _), (6, _), (8, _), (11, _)] rfl ?_
    refine WC.seq (WC.seq (WC.run (D rfl rfl (D rfl rfl ?_))))
    refine WS.gtrN (a := l81.length) (b := 8) rfl rfl rfl (fun e91 => ?_) (fun e91 => ?_)
    ·
     refine WS.nil [(0, _), (6, _), (8, _), (11, _), (91, _)] rfl ?_
     refine WC.condT rfl (WC.seq (WC.run (D rfl rfl (D rfl rfl (WS.opV (.int .i64 (((l81.length + 1) : Nat) : Int)) rfl rfl (add_i64 (a := l81.length) (b := 1) (by omega)) (WS.opV (.int .i64 ((((l81.length + 1) / 2) : Nat) : Int)) rfl rfl (quo_i64 (a := (l81.length + 1)) (b := 2) (by omega)) (D rfl rfl (WS.nil [(0, _), (6, _), (8, _), (11, _), (12, _)] rfl ?_))))))))
     refine WC.seq (WC.draw M21 [11] rfl ?_)
     intro rb22 h23 M24
     refine D rfl rfl (D rfl rfl (D rfl rfl (D rfl rfl (D rfl (op_ld (M24.at 2 rfl) rfl rfl) (D rfl rfl (WS.opV (.int .i64 (((g1.length + 1) : Nat) : Int)) rfl rfl (add_i64 (a := g1.length) (b := 1) (by omega)) (D rfl rfl (D rfl rfl (D rfl (op_slPg (g := (⟨q81, 2 * l81.length, l81⟩ : Pg)) ((l81.length + 1) / 2) (M24.at 1 rfl) (by simp only []; omega) (by simp only []; omega) rfl rfl) ?_)))))))))
     refine WS.call rfl rfl rfl (clone_ran M24.bare.here (l := (l81.drop ((l81.length + 1) / 2))) (slPg (g := (⟨q81, 2 * l81.length, l81⟩ : Pg)) _ _ (M24.at 1 rfl) (by simp only []; omega)) (by intro e; have := congrArg List.length e; simp only [List.length_drop, List.length_nil] at this; omega) (by simp only [List.length_drop, List.length_take]; omega)) ?_
     rintro _ h25 ⟨q106, rfl, N26⟩
     have M27 := M24.trans N26
     refine WS.chk rfl (op_ld (M27.at 3 rfl) rfl rfl) rfl (same_sl _ _ _) ?_
     refine WS.bslA M27 [_] 0 rfl rfl rfl rfl rfl ?_
     intro h29 M30
     refine WS.call rfl rfl rfl (ins_call (K := KPg) (l := (g1 ++ (⟨q81, 2 * l81.length, l81⟩ : Pg) :: g2)) (i := (g1.length + 1)) (x := (⟨q106, 2 * (l81.drop ((l81.length + 1) / 2)).length, l81.drop ((l81.length + 1) / 2)⟩ : Pg)) rfl (by simp) ((M30.bare.focus 0 rfl).focus 2 rfl) (by rw [hco]; simp) (by simp) (by simp only [List.length_append, List.length_cons] at hlen ⊢; omega)) ?_
     rintro _ h31 ⟨q108, l108, hl108, rfl, M32⟩
     replace M32 : Mem _ _ ([(q108, _)] :: [(q106, _)] :: [(q81, _)] :: [(p, _)] :: [(p4, _)] :: [(p1, _)] :: (pseg g1 ++ pseg g2) :: L) _ := M32
     have hgl108 : l108 = g1 ++ (⟨q81, 2 * l81.length, l81⟩ : Pg) :: (⟨q106, 2 * (l81.drop ((l81.length + 1) / 2)).length, l81.drop ((l81.length + 1) / 2)⟩ : Pg) :: g2 := by rw [hl108, take_mid1, (take_mid rfl).2]; simp
     have hyk5 : l108[g1.length]? = some (⟨q81, 2 * l81.length, l81⟩ : Pg) := by rw [hgl108]; simp
     refine D rfl rfl (D rfl rfl ?_)
     refine WS.st1 (M32.focus 3 rfl) [_] [_, _] rfl rfl rfl rfl rfl (C rfl) (C rfl) rfl rfl ?_
     intro h33 M34
     replace M34 : Mem _ _ ([(p, _)] :: [(q108, _)] :: [(q106, _)] :: [(q81, _)] :: [(p4, _)] :: [(p1, _)] :: (pseg g1 ++ pseg g2) :: L) _ := M34
     refine WS.nil [(0, _), (6, _), (8, _), (11, _), (12, _)] rfl ?_
     refine WC.draw M34.bare [] rfl ?_
     intro rb35 h36 M37
     refine D rfl rfl (D rfl rfl (D rfl rfl (D rfl (op_ld (M37.at 0 rfl) rfl rfl) (D rfl rfl (D rfl rfl (D rfl rfl (D rfl (op_slVG (K := KIt) (l := l81) (j := []) ((l81.length + 1) / 2) rfl (by rw [List.append_nil]; exact (M37.at 3 rfl)) (by rw [List.append_nil]; rfl) rfl (by omega)) ?_)))))))
     refine WS.call rfl rfl rfl (clone_ran M37.bare.here (l := (l81.take ((l81.length + 1) / 2))) (by have := sl_take (K := KIt) (l := l81) (c := 2 * (l81 ++ []).length) ((l81.length + 1) / 2) (M37.at 3 rfl) (by omega); rw [List.length_take, Nat.min_eq_left (by omega)] at this; exact this) (by intro e; have := congrArg List.length e; simp only [List.length_take, List.length_nil] at this; omega) (by simp only [List.length_drop, List.length_take]; omega)) ?_
     rintro _ h38 ⟨q119, rfl, N39⟩
     have M40 := M37.trans N39
     refine WS.chk rfl (op_ld (M40.at 1 rfl) rfl rfl) rfl (same_sl _ _ _) (D rfl (op_iaV2 g1.length rfl rfl (by exact (List.getElem?_eq_some_iff.1 hyk5).1)) ?_)
     refine WS.stN (K := KPg) (y' := (⟨q119, 2 * (l81.take ((l81.length + 1) / 2)).length, l81.take ((l81.length + 1) / 2)⟩ : Pg)) (M40.focus 2 rfl) (List.getElem?_eq_some_iff.1 hyk5).1 rfl rfl rfl rfl rfl ?_
     intro h41 M42
     rw [hgl108, set_mid rfl] at M42
     replace M42 : Mem _ _ ([(q108, _)] :: [(q119, _)] :: [(p, _)] :: [(q106, _)] :: [(q81, _)] :: [(p4, _)] :: [(p1, _)] :: (pseg g1 ++ pseg g2) :: L) _ := M42
     refine WS.nil [(6, _)] rfl ?_
     refine WC.seq (WC.run (WS.opV (.agg #[(.string (bs ([]))), (.int .u64 (0 : Int)), (.int .u64 (0 : Int))]) rfl rfl rfl ?_))
     refine WS.st1 (M42.bare.focus 5 rfl) [_, _, _] [_, _, _] rfl rfl rfl rfl rfl (C rfl) (C rfl) rfl rfl ?_
     intro h43 M44
     replace M44 : Mem _ _ ([(p4, _)] :: [(q108, _)] :: [(q119, _)] :: [(p, _)] :: [(q106, _)] :: [(q81, _)] :: [(p1, _)] :: (pseg g1 ++ pseg g2) :: L) _ := M44
     refine D rfl rfl (WS.nil [(6, _), (7, _)] rfl ?_)
     refine WC.ret (⟨[_, _], (res_cellN [_, _, _] rfl (M44.at 0 rfl) (C rfl) rfl (res_tmp rfl res_nil)), ?_⟩)
     have hgn : getF (lst (g1 ++ y :: g2)).flatten key = none := by rw [get_split (lst_mid g1 g2 y) hA hB]; exact get_none (cut_not hys hct hnt)
     have hpn := put_new (it := ⟨key, v.val, v.ver, v.lea⟩) hys hct hnt
     rw [← hl81] at hpn
     rw [hpn] at hPM
     refine ⟨by unfold getV; rw [hgn]; rfl, ?_⟩
     have h9 : (l81.length + 1) / 2 = 5 := by omega
     rw [if_neg (by omega)] at hPM
     exact After.mk' (c := 2 * l108.length) (gs := g1 ++ (⟨q119, 2 * (l81.take ((l81.length + 1) / 2)).length, l81.take ((l81.length + 1) / 2)⟩ : Pg) :: (⟨q106, 2 * (l81.drop ((l81.length + 1) / 2)).length, l81.drop ((l81.length + 1) / 2)⟩ : Pg) :: g2) (by rw [hgl108]; simp) (by rw [hgl108]; simp) (by have := pok_mid hok (m := [(⟨q119, 2 * (l81.take ((l81.length + 1) / 2)).length, l81.take ((l81.length + 1) / 2)⟩ : Pg), (⟨q106, 2 * (l81.drop ((l81.length + 1) / 2)).length, l81.drop ((l81.length + 1) / 2)⟩ : Pg)]) (fun g hg => by simp at hg; rcases hg with rfl | rfl <;> simp <;> omega); simpa using this) (by rw [hPM]; simp [lst, h9]) (by rw [hn]; simp [lst]; omega) rfl (Mem.joinPg2 (y := (⟨q119, 2 * (l81.take ((l81.length + 1) / 2)).length, l81.take ((l81.length + 1) / 2)⟩ : Pg)) (z := (⟨q106, 2 * (l81.drop ((l81.length + 1) / 2)).length, l81.drop ((l81.length + 1) / 2)⟩ : Pg)) (((((((((((M44.focus 0 rfl).drop).focus 4 rfl).drop).focus 4 rfl).drop).focus 4 rfl).focus 4 rfl).focus 3 rfl).focus 3 rfl).focus 4 rfl))
    ·
     refine WS.nil [(0, _), (6, _), (8, _), (11, _), (91, _)] rfl ?_
     refine WC.condF rfl (WC.skip (WC.seq (WC.run (WS.opV (.agg #[(.string (bs ([]))), (.int .u64 (0 : Int)), (.int .u64 (0 : Int))]) rfl rfl rfl ?_))))
     refine WS.st1 (M21.focus 3 rfl) [_, _, _] [_, _, _] rfl rfl rfl rfl rfl (C rfl) (C rfl) rfl rfl ?_
     intro h45 M46
     replace M46 : Mem _ _ ([(p4, _)] :: [(po, _)] :: [(q81, _)] :: [(p, _)] :: [(p1, _)] :: (pseg g1 ++ pseg g2) :: L) _ := M46
     refine D rfl rfl (WS.nil [(6, _), (7, _)] rfl ?_)
     refine WC.ret (⟨[_, _], (res_cellN [_, _, _] rfl (M46.at 0 rfl) (C rfl) rfl (res_tmp rfl res_nil)), ?_⟩)
     have hgn : getF (lst (g1 ++ y :: g2)).flatten key = none := by rw [get_split (lst_mid g1 g2 y) hA hB]; exact get_none (cut_not hys hct hnt)
     have hpn := put_new (it := ⟨key, v.val, v.ver, v.lea⟩) hys hct hnt
     rw [← hl81] at hpn
     rw [hpn] at hPM
     refine ⟨by unfold getV; rw [hgn]; rfl, ?_⟩
     rw [if_pos (by omega)] at hPM
     exact After.mk' (c := co) (gs := g1 ++ (⟨q81, 2 * l81.length, l81⟩ : Pg) :: g2) (by simp) (by rw [hco]; simp) (by have := pok_mid hok (m := [(⟨q81, 2 * l81.length, l81⟩ : Pg)]) (fun g hg => by simp at hg; subst hg; simp); simpa using this) (by rw [hPM]; simp [lst]) (by rw [hn]; simp [lst]; omega) rfl (Mem.joinPg (y := (⟨q81, 2 * l81.length, l81⟩ : Pg)) ((((((((M46.focus 0 rfl).drop).focus 3 rfl).drop).focus 3 rfl).focus 2 rfl).focus 2 rfl).focus 3 rfl))
  ·
   refine WC.condT rfl (WC.seq (WC.draw M9 [] rfl ?_))
   intro rb47 h48 M49
   obtain ⟨z, hz, ez⟩ := hbt.1 (by assumption)
   refine D rfl rfl (D rfl rfl (D rfl rfl (D rfl (op_ld (M49.at 2 rfl) rfl rfl) (D rfl rfl (D rfl (op_iaV2 g1.length rfl rfl (by exact (List.getElem?_eq_some_iff.1 hyk).1)) (D rfl (op_ldH rfl (Row.ld (K := KPg) (k := 0) (M49.at 3 rfl) hyk rfl)) (D rfl rfl (D rfl rfl (D rfl rfl ?_)))))))))
   refine D rfl rfl (D rfl (op_ld (M49.at 2 rfl) rfl rfl) (D rfl rfl (D rfl (op_iaV2 g1.length rfl rfl (by exact (List.getElem?_eq_some_iff.1 hyk).1)) (D rfl (op_ldH rfl (Row.ld (K := KPg) (k := 0) (M49.at 3 rfl) hyk rfl)) (D rfl rfl (D rfl (op_iaV2 a rfl rfl (by exact (List.getElem?_eq_some_iff.1 hz).1)) (D rfl rfl (D rfl (op_ldN rfl (At.ldsub (At.elem (K := KIt) (at_all (K := KIt) (M49.at 4 rfl)) hz) (cs2 := [_, _, _]) rfl (C rfl))) (D rfl (op_lds [_, _, _] (M49.at 1 rfl) rfl (C rfl) rfl) ?_)))))))))
   refine WS.st1 (M49.focus 0 rfl) [_, _, _] [_, _, _] rfl rfl rfl rfl rfl (C rfl) (C rfl) rfl rfl ?_
   intro h50 M51
   replace M51 : Mem _ _ ([(p4, _)] :: [(p1, _)] :: [(p, _)] :: [(po, _)] :: [(y.b, _)] :: (pseg g1 ++ pseg g2) :: L) _ := M51
   refine WS.chk rfl (op_ld (M51.at 2 rfl) rfl rfl) rfl (same_sl _ _ _) (WS.chk rfl (op_ldH rfl (Row.ld (K := KPg) (k := 0) (M51.at 3 rfl) hyk rfl)) rfl (same_sl _ _ _) (WS.chk rfl (op_lds [_, _, _] (M51.at 1 rfl) rfl (C rfl) rfl) rfl (sameV_refl rfl) (D rfl (op_iaV2 a rfl rfl (by exact (List.getElem?_eq_some_iff.1 hz).1)) (D rfl rfl ?_))))
   refine WS.stSub (K := KIt) (k0 := 1) (y := z) (y' := { z with va := v.val, vn := v.ver, ls := v.lea }) [_, _, _] (M51.focus 4 rfl) hz rfl rfl rfl rfl rfl rfl (C rfl) (C rfl) rfl ?_
   intro h52 M53
   replace M53 : Mem _ _ ([(y.b, _)] :: [(p4, _)] :: [(p1, _)] :: [(p, _)] :: [(po, _)] :: (pseg g1 ++ pseg g2) :: L) _ := M53
   refine WS.nil [(6, _)] rfl ?_
   refine WC.seq (WC.run (D rfl (op_lds [_, _, _] (M53.bare.at 1 rfl) rfl (C rfl) rfl) ?_))
   refine WS.st1 (M53.bare.focus 1 rfl) [_, _, _] [_, _, _] rfl rfl rfl rfl rfl (C rfl) (C rfl) rfl rfl ?_
   intro h54 M55
   replace M55 : Mem _ _ ([(p4, _)] :: [(y.b, _)] :: [(p1, _)] :: [(p, _)] :: [(po, _)] :: (pseg g1 ++ pseg g2) :: L) _ := M55
   refine D rfl rfl (WS.nil [(6, _), (7, _)] rfl ?_)
   refine WC.ret (⟨[_, _], (res_cellN [_, _, _] rfl (M55.at 0 rfl) (C rfl) rfl (res_tmp rfl res_nil)), ?_⟩)
   have hgf : getF (lst (g1 ++ y :: g2)).flatten key = some z := by rw [get_split (lst_mid g1 g2 y) hA hB]; exact get_there hct hz ez
   have hz9 : ({ z with va := v.val, vn := v.ver, ls := v.lea } : It) = ⟨key, v.val, v.ver, v.lea⟩ := by rw [← ez]
   have hpt := put_there (it := ⟨key, v.val, v.ver, v.lea⟩) hys hct hz ez
   rw [hpt, if_pos (by rw [List.length_set]; exact hyl.2)] at hPM
   refine ⟨by unfold getV; rw [hgf]; rfl, After.mk' (c := co) (gs := g1 ++ (⟨y.b, y.c, y.l.set a { z with va := v.val, vn := v.ver, ls := v.lea }⟩ : Pg) :: g2) (by simp) (by rw [hco]; simp) (by have := pok_mid hok (m := [(⟨y.b, y.c, y.l.set a { z with va := v.val, vn := v.ver, ls := v.lea }⟩ : Pg)]) (fun g hg => by simp at hg; subst hg; simpa using hyc); simpa using this) (by rw [hPM, ← hz9]; simp [lst]) (by rw [hn]; simp [lst]) (flat_val (by simp [Pg.val])) (Mem.joinPg (y := (⟨y.b, y.c, y.l.set a { z with va := v.val, vn := v.ver, ls := v.lea }⟩ : Pg)) ((((((((M55.focus 0 rfl).drop).focus 1 rfl).drop).focus 3 rfl).focus 1 rfl).focus 3 rfl).focus 3 rfl))⟩
end Go.Proofs.Ytkfjlbdedjoojaa.Wt
namespace Go.Proofs.Ytkfjlbdedjoojaa.Wt
open Go Go.Proofs.Ytkfjlbdedjoojaa.Am Go.Proofs.Ytkfjlbdedjoojaa.IrAll
open Nat renaming le_of_ble_eq_true → C
set_option linter.unusedVariables false
set_option linter.unusedSimpArgs false
variable {h base : H} {L : List Seg} {R : List Nat}
theorem placed_nil {key : List UInt8} {pg a : Nat} {b : Bool} (hp : Placed [] key pg a b) : pg = 0 ∧ a = 0 ∧ b = false := by
  rcases hp with ⟨_, q⟩ | ⟨_, g, hg, _⟩
  · exact q
  · simp at hg
theorem put0_ran {p : Nat} {Vo : Value} {So : Seg} {key : List UInt8} {v : Vl} (O : Outer Vo [] So) (M : Mem base h ([(p, ⟨[Vo, .int .i64 0], 0, false⟩)] :: So :: L) []) :
    Cll tab0 56 [.pointer (some ⟨p, 0, none⟩), .string (bs key), .agg (Vl.cells v).toArray] h (fun w h2 => w = .tuple #[.agg (Vl.cells (getV (lst []).flatten key).1).toArray, .bool (getV (lst []).flatten key).2] ∧ After p base h2 L (putL (lst []) ⟨key, v.val, v.ver, v.lea⟩)) := by
  have hOs : ∀ h, (∀ p ∈ So, h.get p.1 = some p.2) → KPg.Sl h Vo [] := fun h M => outer_sl O M
  obtain ⟨Po, co, rfl⟩ := outer_len O
  refine Cll.code rfl rfl ?_
  refine WC.env [(0, _), (1, _), (2, _)] rfl ?_
  refine WC.seq (WC.run (WS.box M [_, _, _] rfl rfl rfl rfl ?_))
  intro p1 h2 M3
  refine WS.new M3 rfl ?_
  intro p4 h5 M6
  refine WS.op rfl rfl (WS.nil [(0, _), (1, _), (5, _), (6, _)] rfl ?_)
  refine WC.seq (WC.seq (WC.run (WS.op rfl rfl (WS.opV (.bool false) rfl rfl rfl (WS.nil [(0, _), (1, _), (5, _), (6, _), (14, _)] rfl ?_)))))
  refine WC.condF rfl (WC.skip (WC.seq (WC.run (WS.op rfl rfl (WS.op rfl rfl ?_)))))
  refine WS.call rfl rfl rfl (place_ran M6.here (key := key) (gs := []) (p := p) ⟨⟨_, (M6.at 2 rfl), hOs _ (Mem.owni M6 3 rfl)⟩, fun g hg => absurd hg (by simp)⟩ inv_nil (by simp)) ?_
  rintro _ h7 ⟨pg, a, b, rfl, hpl, N8⟩
  have M9 := M6.trans N8
  obtain ⟨rfl, rfl, rfl⟩ := placed_nil hpl
  refine WS.op rfl rfl (WS.op rfl rfl (WS.op rfl rfl (WS.op rfl rfl (WS.op rfl rfl (WS.op rfl rfl (WS.op rfl rfl (WS.nil [(0, _), (1, _), (5, _), (6, _), (8, _), (9, _), (10, _)] rfl ?_)))))))
  refine WC.seq (WC.seq (WC.run (WS.op rfl rfl (WS.nil [(0, _), (1, _), (5, _), (6, _), (8, _), (9, _), (23, _)] rfl ?_))))
  refine WC.condF rfl (WC.skip (WC.seq (WC.run (WS.op rfl rfl (WS.op rfl rfl (WS.op rfl rfl (WS.op rfl (op_ld (M9.at 2 rfl) rfl rfl) (WS.opV (.int .i64 1) rfl rfl rfl (WS.op rfl rfl (WS.op rfl rfl ?_))))))))))
  refine WS.st1 (M9.focus 2 rfl) [_] [_, _] rfl rfl rfl rfl rfl (C rfl) (C rfl) rfl rfl ?_
  intro h10 M11
  replace M11 : Mem _ _ ([(p, _)] :: [(p4, _)] :: [(p1, _)] :: So :: L) _ := M11
  refine WS.nil [(0, _), (1, _), (5, _), (6, _), (8, _), (9, _)] rfl ?_
  refine WC.seq (WC.seq (WC.run (WS.op rfl rfl (WS.op rfl rfl (WS.op rfl rfl (WS.op rfl (op_ld (M11.at 0 rfl) rfl rfl) (WS.op rfl (op_lenVS (hOs _ (Mem.owni M11 3 rfl)) rfl) ?_)))))))
  refine WS.eqlN (a := (([] : List Pg)).length) (b := 0) rfl rfl rfl (fun e59 => ?_) (fun e59 => ?_)
  ·
   refine WS.nil [(0, _), (1, _), (5, _), (6, _), (8, _), (9, _), (59, _)] rfl ?_
   refine WC.condT rfl (WC.seq (WC.run (WS.op rfl rfl (WS.op rfl rfl (WS.op rfl (op_lds [_, _, _] (M11.at 2 rfl) rfl (C rfl) rfl) (WS.opV (.agg #[(.string (bs key)), (.string (bs v.val)), (.int .u64 (((v.ver).toNat : Nat) : Int)), (.int .u64 (((v.lea).toNat : Nat) : Int))]) rfl rfl rfl ?_))))))
   refine WS.bsl M11 [_, _, _, _] rfl rfl rfl rfl ?_
   intro p12 h13 M14
   refine WS.bsl M14 [_] rfl rfl rfl rfl ?_
   intro p15 h16 M17
   refine WS.op rfl rfl (WS.op rfl rfl ?_)
   refine WS.st1 (M17.focus 2 rfl) [_] [_, _] rfl rfl rfl rfl rfl (C rfl) (C rfl) rfl rfl ?_
   intro h18 M19
   replace M19 : Mem _ _ ([(p, _)] :: [(p15, _)] :: [(p12, _)] :: [(p4, _)] :: [(p1, _)] :: So :: L) _ := M19
   refine WS.nil [(6, _)] rfl ?_
   refine WC.seq (WC.run (WS.opV (.agg #[(.string (bs ([]))), (.int .u64 (0 : Int)), (.int .u64 (0 : Int))]) rfl rfl rfl ?_))
   refine WS.st1 (M19.focus 3 rfl) [_, _, _] [_, _, _] rfl rfl rfl rfl rfl (C rfl) (C rfl) rfl rfl ?_
   intro h20 M21
   replace M21 : Mem _ _ ([(p4, _)] :: [(p, _)] :: [(p15, _)] :: [(p12, _)] :: [(p1, _)] :: So :: L) _ := M21
   refine WS.op rfl rfl (WS.nil [(6, _), (7, _)] rfl ?_)
   refine WC.ret (⟨[_, _], (res_cellN [_, _, _] rfl (M21.at 0 rfl) (C rfl) rfl (res_tmp rfl res_nil)), ?_⟩)
   exact ⟨rfl, After.mk' (c := 3) (gs := [(⟨p12, 3, [⟨key, v.val, v.ver, v.lea⟩]⟩ : Pg)]) rfl (by simp) (fun g hg => by simp at hg; subst hg; simp) rfl rfl rfl (((((M21.focus 0 rfl).drop).focus 3 rfl).drop).focus 3 rfl).drop⟩
  ·
   exact absurd e59 (by simp)
theorem Put_ran {p : Nat} {LL : List (List It)} {S : Seg} {key : List UInt8} {v : Vl} (G : PgSt p LL S) (M : Mem base h (S :: L) []) (hI : Inv LL) (hn : LL.flatten.length ≤ 900000) :
    Cll tab0 56 [.pointer (some ⟨p, 0, none⟩), .string (bs key), .agg (Vl.cells v).toArray] h (fun w h2 => w = .tuple #[.agg (Vl.cells (getV LL.flatten key).1).toArray, .bool (getV LL.flatten key).2] ∧ ∃ S2, PgSt p (putL LL ⟨key, v.val, v.ver, v.lea⟩) S2 ∧ Mem base h2 (S2 :: L) []) := by
  obtain ⟨Vo, So, gs, O, hok, rfl, M⟩ := G.open M
  have fin : ∀ {h2 : H} {LL2 : List (List It)}, After p base h2 L LL2 → ∃ S2, PgSt p LL2 S2 ∧ Mem base h2 (S2 :: L) [] := fun ⟨Vo, So, gs, a, b, c, m⟩ => PgSt.shut a b c rfl m
  by_cases hne : gs = []
  · subst hne
    exact (put0_ran O (M.perm (by simp [pseg, lst]))).mono fun w h2 ⟨a, b⟩ => ⟨a, fin b⟩
  · obtain ⟨A, gl, B, e, hA, h1, h2⟩ := home_split hI (by unfold lst; simpa using hne) key
    obtain ⟨g1, y, g2, rfl, rfl, rfl, rfl⟩ := lst_split e
    obtain ⟨po, c, hc, rfl, rfl⟩ := outer_some O hne
    exact (put1_ran (Mem.splitPg M) hI hc hok (by rw [← hA, lst_len]) rfl hn h1 h2).mono fun w h2 ⟨a, b⟩ => ⟨a, fin b⟩
theorem gs_le {gs : List Pg} (hI : Inv (lst gs)) (hn : (lst gs).flatten.length ≤ 900000) : gs.length ≤ 1000000 := by have := pages_le hI; rw [lst_len] at this; omega
theorem Get_st {p : Nat} {LL : List (List It)} {S : Seg} {key : List UInt8} (G : PgSt p LL S) (M : Mem base h (S :: L) []) (hI : Inv LL) (hn : LL.flatten.length ≤ 900000) :
    Cll tab0 58 [.pointer (some ⟨p, 0, none⟩), .string (bs key)] h (fun v h2 => v = .tuple #[.agg (Vl.cells (getV LL.flatten key).1).toArray, .bool (getV LL.flatten key).2] ∧ Mem base h2 (S :: L) []) := by
  obtain ⟨gs, rfl, hok, A⟩ := G.read (Mem.owni M 0 rfl)
  exact (Get_ran M.here A hI (gs_le hI hn)).mono fun v h2 ⟨e, N⟩ => ⟨e, M.trans N⟩
theorem Len_st {p : Nat} {LL : List (List It)} {S : Seg} (G : PgSt p LL S) (M : Mem base h (S :: L) []) : Cll tab0 36 [.pointer (some ⟨p, 0, none⟩)] h (fun v h2 => v = .int .i64 ((LL.flatten.length : Nat) : Int) ∧ Mem base h2 (S :: L) []) := by
  obtain ⟨gs, rfl, hok, A⟩ := G.read (Mem.owni M 0 rfl)
  exact (Len_ran M.here A).mono fun v h2 ⟨e, N⟩ => ⟨e, M.trans N⟩
theorem Range_st {p : Nat} {LL : List (List It)} {S : Seg} {fr to : List UInt8} {most : Int} (G : PgSt p LL S) (M : Mem base h (S :: L) []) (hI : Inv LL) (hn : LL.flatten.length ≤ 900000) :
    Cll tab0 37 [.pointer (some ⟨p, 0, none⟩), .string (bs fr), .string (bs to), .int .i64 most] h (fun v h2 => ∃ S1, KIt.Own v (rangeF LL.flatten fr to most) S1 ∧ Mem base h2 (S1 :: S :: L) []) := by
  obtain ⟨gs, rfl, hok, A⟩ := G.read (Mem.owni M 0 rfl)
  exact (Range_ran M.here A hI hok (gs_le hI hn) (by omega)).mono fun v h2 ⟨S1, e, N⟩ => ⟨S1, e, M.trans N⟩
theorem New_st (M : Mem base h L []) : Cll tab0 34 [] h (fun v h2 => ∃ p S, PgSt p [] S ∧ v = .pointer (some ⟨p, 0, none⟩) ∧ Mem base h2 (S :: L) []) :=
  (New_ran M.here).mono fun v h2 ⟨p, S, G, e, N⟩ => ⟨p, S, G, e, M.trans N⟩
end Go.Proofs.Ytkfjlbdedjoojaa.Wt
namespace Go.Proofs.Ytkfjlbdedjoojaa.Wt
open Go Go.Proofs.Ytkfjlbdedjoojaa.Am Go.Proofs.Ytkfjlbdedjoojaa.IrAll
open Go.Proofs.Ytkfjlbdedjoojaa.Am.WS renaming op → C
set_option linter.unusedVariables false
set_option linter.unusedSimpArgs false
variable {h base h2 : H} {L : List Seg} {R : List Nat}
structure KS where
  F : List It
  K : Nat
  M : Nat
  v : Nat
def szI (x : It) : Nat := x.ky.length + x.va.length
def szF (F : List It) : Nat := (F.map szI).sum
theorem szF_cons (x : It) (F : List It) : szF (x :: F) = szI x + szF F := by simp [szF]
theorem szF_app (A B : List It) : szF (A ++ B) = szF A + szF B := by simp [szF]
def costK (F : List It) (key val : List UInt8) : Nat × Int := if (getV F key).2 = true then (0, (val.length : Int) - ((getV F key).1.val.length : Nat)) else (1, ((key.length + val.length : Nat) : Int))
def OverK (s : KS) (key val : List UInt8) : Prop := s.K < s.F.length + (costK s.F key val).1 ∨ (s.M : Int) < (szF s.F : Nat) + (costK s.F key val).2
instance (s : KS) (key val : List UInt8) : Decidable (OverK s key val) := by unfold OverK; infer_instance
def putK (s : KS) (key val : List UInt8) (ls : UInt64) : KS × Nat := if OverK s key val then (s, 3) else (⟨putF s.F ⟨key, val, UInt64.ofNat (s.v + 1), ls⟩, s.K, s.M, s.v + 1⟩, 0)
theorem sz_eq {F : List It} {key : List UInt8} (h : SrtI F) : szF (F.filter fun x => decide (x.ky = key)) = if (getV F key).2 = true then key.length + (getV F key).1.val.length else 0 := by
  induction F with
  | nil => rfl
  | cons x F ih =>
    obtain ⟨h1, h2⟩ := srt_cons.1 h
    by_cases c : x.ky = key
    · have e : F.filter (fun x => decide (x.ky = key)) = [] := by
        rw [List.filter_eq_nil_iff]
        intro y hy q
        have := h1 y hy
        rw [c, of_decide_eq_true q] at this; exact kL_irr this
      have g : getF (x :: F) key = some x := by unfold getF; rw [List.find?_cons_of_pos (by simpa using c)]
      rw [List.filter_cons_of_pos (by simpa using c), e]
      unfold getV; rw [g, if_pos rfl]; simp [szF, szI, c, It.vl]
    · have g : getF (x :: F) key = getF F key := by unfold getF; rw [List.find?_cons_of_neg (by simpa using c)]
      have g2 : getV (x :: F) key = getV F key := by unfold getV; rw [g]
      rw [List.filter_cons_of_neg (by simpa using c), g2, ih h2]
theorem sz_del {F : List It} {key : List UInt8} : szF F = szF (delF F key) + szF (F.filter fun x => decide (x.ky = key)) := by
  induction F with
  | nil => rfl
  | cons x F ih =>
    unfold delF at ih ⊢
    by_cases c : x.ky = key
    · rw [List.filter_cons_of_neg (by simpa using c), List.filter_cons_of_pos (by simpa using c), szF_cons, szF_cons]; omega
    · rw [List.filter_cons_of_pos (by simpa using c), List.filter_cons_of_neg (by simpa using c), szF_cons, szF_cons]; omega
theorem sz_put {F : List It} {it : It} : szF (putF F it) = szF (delF F it.ky) + szI it := by
  have : ∀ F : List It, szF (delF F it.ky) = szF (F.filter (fun x => decide (kL x.ky it.ky))) + szF (F.filter (fun x => decide (kL it.ky x.ky))) := by
    intro F
    induction F with
    | nil => rfl
    | cons x F ih =>
      unfold delF at ih ⊢
      by_cases c : x.ky = it.ky
      · rw [List.filter_cons_of_neg (by simpa using c), List.filter_cons_of_neg (by rw [c]; simpa using kL_irr), List.filter_cons_of_neg (by rw [c]; simpa using kL_irr)]; exact ih
      · by_cases d : kL x.ky it.ky
        · rw [List.filter_cons_of_pos (by simpa using c), List.filter_cons_of_pos (by simpa using d), List.filter_cons_of_neg (by simpa using kL_asym d), szF_cons, szF_cons]; omega
        · have d2 : kL it.ky x.ky := Classical.byContradiction fun q => c (kL_tot d q)
          rw [List.filter_cons_of_pos (by simpa using c), List.filter_cons_of_neg (by simpa using d), List.filter_cons_of_pos (by simpa using d2), szF_cons, szF_cons]; omega
  rw [this]; unfold putF; rw [szF_app, szF_cons]; omega
theorem sz_cost {F : List It} {it : It} (h : SrtI F) : ((szF (putF F it) : Nat) : Int) = (szF F : Nat) + (costK F it.ky it.va).2 := by
  have h1 := sz_put (F := F) (it := it)
  have h2 := sz_del (F := F) (key := it.ky)
  have h3 := sz_eq (key := it.ky) h
  unfold costK
  by_cases c : (getV F it.ky).2 = true
  · rw [if_pos c]; rw [if_pos c] at h3; simp only [szI] at h1; omega
  · rw [if_neg c]; rw [if_neg c] at h3; simp only [szI] at h1; omega
theorem sz_gone {F : List It} {key : List UInt8} (h : SrtI F) (c : (getV F key).2 = true) : szF F = szF (delF F key) + (key.length + (getV F key).1.val.length) := by
  have h2 := sz_del (F := F) (key := key)
  have h3 := sz_eq (key := key) h
  rw [if_pos c] at h3; omega
theorem cost_hi {F : List It} {key val : List UInt8} : (costK F key val).1 ≤ 1 ∧ (costK F key val).2 ≤ ((key.length + val.length : Nat) : Int) := by
  unfold costK
  split
  · exact ⟨Nat.zero_le _, by simp only []; omega⟩
  · exact ⟨Nat.le_refl _, Int.le_refl _⟩
theorem cost_lo {F : List It} {key val : List UInt8} (h : SrtI F) : 0 ≤ ((szF F : Nat) : Int) + (costK F key val).2 := by
  have := sz_cost (it := ⟨key, val, 0, 0⟩) h
  rw [← this]; omega
theorem get_len {F : List It} {key : List UInt8} (h : SrtI F) (c : (getV F key).2 = true) : (getV F key).1.val.length ≤ szF F := by
  have := sz_gone h c; omega
def KvSt (s : Nat) (st : KS) (S : Seg) : Prop := ∃ p Sp LL, PgSt p LL Sp ∧ Inv LL ∧ LL.flatten = st.F ∧ S = (s, ⟨[.pointer (some ⟨p, 0, none⟩), .int .i64 (st.K : Int), .int .i64 (st.M : Int), .int .i64 ((szF st.F : Nat) : Int), .int .u64 (st.v : Int)], 0, false⟩) :: Sp
theorem KvSt.open {s : Nat} {st : KS} {S : Seg} (G : KvSt s st S) (M : Mem base h (S :: L) []) : ∃ p Sp LL K Mx v, st = ⟨LL.flatten, K, Mx, v⟩ ∧ PgSt p LL Sp ∧ Inv LL ∧ Mem base h ([(s, ⟨[.pointer (some ⟨p, 0, none⟩), .int .i64 (K : Int), .int .i64 (Mx : Int), .int .i64 ((szF LL.flatten : Nat) : Int), .int .u64 (v : Int)], 0, false⟩)] :: Sp :: L) [] := by
  obtain ⟨p, Sp, LL, G, hI, hF, rfl⟩ := G
  obtain ⟨F, K, Mx, v⟩ := st
  cases hF
  exact ⟨p, Sp, LL, K, Mx, v, rfl, G, hI, M.perm (by simp)⟩
theorem KvSt.shut {s p K Mx v z : Nat} {LL : List (List It)} {F : List It} {Sp : Seg} (G : PgSt p LL Sp) (hI : Inv LL) (hF : LL.flatten = F) (hz : z = szF F) (M : Mem base h ([(s, ⟨[.pointer (some ⟨p, 0, none⟩), .int .i64 (K : Int), .int .i64 (Mx : Int), .int .i64 (z : Int), .int .u64 (v : Int)], 0, false⟩)] :: Sp :: L) []) : ∃ S, KvSt s ⟨F, K, Mx, v⟩ S ∧ Mem base h (S :: L) [] := by
  subst hF hz
  exact ⟨_, ⟨p, Sp, LL, G, hI, rfl, rfl⟩, M.perm (by simp)⟩
def heldK (z : Int) : Nat := (min (max z 0) 2147483647).toNat
theorem held_max {z : Int} : Value.int .i64 (if false = true then (if (0 : Int) < z then (0 : Int) else z) else (if (0 : Int) > z then (0 : Int) else z)) = .int .i64 (max z 0) := by
  rw [if_neg (by decide)]
  congr 1
  split <;> omega
theorem held_min {z : Int} : Value.int .i64 (if true = true then (if (2147483647 : Int) < max z 0 then (2147483647 : Int) else max z 0) else (if (2147483647 : Int) > max z 0 then (2147483647 : Int) else max z 0)) = .int .i64 ((heldK z : Nat) : Int) := by
  rw [if_pos rfl]
  congr 1
  unfold heldK
  split <;> omega
theorem held_ran (W : Mem h h [] []) {z : Int} : Cll tab0 33 [.int .i64 z] h (fun v h2 => v = .int .i64 ((heldK z : Nat) : Int) ∧ Mem h h2 [] []) := by
  refine Cll.code rfl rfl ?_
  refine WC.env [(0, _)] rfl ?_
  refine WC.seq (WC.run (C rfl rfl (WS.nil [(0, _)] rfl ?_)))
  refine WC.seq (WC.run (C rfl rfl (WS.opV (.int .i64 (max z 0)) rfl rfl held_max (WS.opV (.int .i64 ((heldK z : Nat) : Int)) rfl rfl held_min (C rfl rfl (WS.nil [(2, _)] rfl ?_))))))
  refine WC.ret (⟨[_], (res_tmp rfl res_nil), ?_⟩)
  exact ⟨rfl, W.bare.take 0⟩
theorem kNew_ran (M : Mem base h L []) {z1 z2 : Int} : Cll tab0 11 [.int .i64 z1, .int .i64 z2] h (fun v h2 => ∃ s S, v = .pointer (some ⟨s, 0, none⟩) ∧ KvSt s ⟨[], heldK z1, heldK z2, 0⟩ S ∧ Mem base h2 (S :: L) []) := by
  refine Cll.code rfl rfl ?_
  refine WC.env [(0, _), (1, _)] rfl ?_
  refine WC.seq (WC.run (C rfl rfl (WS.nil [(0, _), (1, _)] rfl ?_)))
  refine WC.seq (WC.run (C rfl rfl (WS.nil [(0, _), (1, _), (5, _)] rfl ?_)))
  refine WC.seq (WC.run (WS.call rfl rfl rfl (New_st M.bare) ?_))
  rintro _ h1 ⟨p6, S3, G4, rfl, M2⟩
  replace M2 : Mem _ _ (S3 :: L) _ := M2
  refine C rfl rfl (C rfl rfl ?_)
  refine WS.call rfl rfl rfl (held_ran M2.here ) ?_
  rintro _ h5 ⟨rfl, N6⟩
  have M7 := M2.trans N6
  refine C rfl rfl (C rfl rfl ?_)
  refine WS.call rfl rfl rfl (held_ran M7.here ) ?_
  rintro _ h8 ⟨rfl, N9⟩
  have M10 := M7.trans N9
  refine WS.opV (.agg #[(.pointer (some ⟨p6, 0, none⟩)), (.int .i64 (((heldK z1) : Nat) : Int)), (.int .i64 (((heldK z2) : Nat) : Int)), (.int .i64 (0 : Int)), (.int .u64 (0 : Int))]) rfl rfl rfl ?_
  refine WS.box M10 [_, _, _, _, _] rfl rfl rfl rfl ?_
  intro p11 h12 M13
  refine C rfl rfl (WS.nil [(4, _)] rfl ?_)
  refine WC.ret (⟨[_], (res_tmp rfl res_nil), ?_⟩)
  obtain ⟨S_, K_, MK_⟩ := KvSt.shut (F := []) (z := 0) G4 inv_nil rfl rfl M13
  exact ⟨_, S_, rfl, K_, MK_⟩
theorem subZ {a b : Nat} (ha : a ≤ 2147483647) (hb : b ≤ 2147483647) : Value.int .i64 (IntKind.i64.wrap (((a : Nat) : Int) - ((b : Nat) : Int))) = .int .i64 ((a : Int) - (b : Nat)) := by
  congr 1; rw [IntKind.wrap_i64]; omega
theorem kcost_ran {s p K Mx v : Nat} {LL : List (List It)} {Sp : Seg} {key val : List UInt8} (G : PgSt p LL Sp) (hI : Inv LL) (M : Mem base h ([(s, ⟨[.pointer (some ⟨p, 0, none⟩), .int .i64 (K : Int), .int .i64 (Mx : Int), .int .i64 ((szF LL.flatten : Nat) : Int), .int .u64 (v : Int)], 0, false⟩)] :: Sp :: L) []) (hm2 : szF LL.flatten ≤ 2147483647) (hN : LL.flatten.length ≤ 800000) (hk : key.length ≤ 1000000) (hv : val.length ≤ 1000000) : Cll tab0 55 [.pointer (some ⟨s, 0, none⟩), .string (bs key), .string (bs val)] h (fun u h2 => u = .tuple #[.int .i64 ((costK LL.flatten key val).1 : Int), .int .i64 (costK LL.flatten key val).2] ∧ Mem base h2 ([(s, ⟨[.pointer (some ⟨p, 0, none⟩), .int .i64 (K : Int), .int .i64 (Mx : Int), .int .i64 ((szF LL.flatten : Nat) : Int), .int .u64 (v : Int)], 0, false⟩)] :: Sp :: L) []) := by
  have hg : (getV LL.flatten key).2 = true → (getV LL.flatten key).1.val.length ≤ szF LL.flatten := get_len hI.2
  refine Cll.code rfl rfl ?_
  refine WC.env [(0, _), (1, _), (2, _)] rfl ?_
  refine WC.seq (WC.run (C rfl rfl (C rfl rfl (WS.nil [(0, _), (1, _), (2, _)] rfl ?_))))
  refine WC.seq (WC.seq (WC.run (C rfl rfl (C rfl rfl (C rfl rfl (C rfl (op_ld (M.at 0 rfl) rfl rfl) (C rfl rfl ?_)))))))
  refine WS.call rfl rfl rfl (Get_st (key := key) G (M.bare.focus 1 rfl) hI (Nat.le_trans hN (by omega))) ?_
  rintro _ h1 ⟨rfl, M2⟩
  replace M2 : Mem _ _ (Sp :: [(s, _)] :: L) _ := M2
  refine C rfl rfl (C rfl rfl (C rfl rfl ?_))
  refine WS.new M2 rfl ?_
  intro p3 h4 M5
  refine WS.st1 (M5.focus 0 rfl) [_, _, _] [_, _, _] rfl rfl rfl rfl rfl (Nat.le_of_ble_eq_true rfl) (Nat.le_of_ble_eq_true rfl) rfl rfl ?_
  intro h6 M7
  replace M7 : Mem _ _ ([(p3, _)] :: Sp :: [(s, _)] :: L) _ := M7
  refine C rfl rfl (WS.nil [(1, _), (2, _), (8, _), (9, _)] rfl ?_)
  refine WC.seq (WC.run (C rfl rfl (WS.nil [(1, _), (2, _), (8, _), (19, _)] rfl ?_)))
  cases hb1 : (getV (LL).flatten key).2
  ·
   refine WC.condF rfl (WC.skip (WC.seq (WC.run (C rfl rfl (C rfl (op_lenS (l := key) rfl) (C rfl rfl (C rfl (op_lenS (l := val) rfl) (WS.opV (.int .i64 ((((key).length + (val).length) : Nat) : Int)) rfl rfl (add_i64 (a := (key).length) (b := (val).length) (by omega)) (C rfl rfl (C rfl rfl (WS.nil [(6, _), (7, _)] rfl ?_)))))))))))
   refine WC.ret (⟨[_, _], (res_tmp rfl (res_tmp rfl res_nil)), ?_⟩)
   exact ⟨by show _ = Value.tuple #[.int .i64 ((costK LL.flatten key val).1 : Int), .int .i64 (costK LL.flatten key val).2]; unfold costK; rw [hb1]; rfl, ((((M7.focus 0 rfl).drop).focus 0 rfl).focus 1 rfl)⟩
  ·
   refine WC.condT rfl (WC.seq (WC.draw M7 [] rfl ?_))
   intro rb8 h9 M10
   have hgl := hg hb1
   refine C rfl rfl (C rfl (op_lenS (l := val) rfl) (C rfl rfl (C rfl (op_ld (M10.at 0 rfl) rfl rfl) (C rfl (op_lenS (l := ((getV (LL).flatten key).1).val) rfl) (WS.opV (.int .i64 ((val.length : Int) - ((getV LL.flatten key).1.val.length : Nat))) rfl rfl (subZ (by omega) (by omega)) (C rfl rfl (C rfl rfl (WS.nil [(6, _), (7, _)] rfl ?_))))))))
   refine WC.ret (⟨[_, _], (res_tmp rfl (res_tmp rfl res_nil)), ?_⟩)
   exact ⟨by show _ = Value.tuple #[.int .i64 ((costK LL.flatten key val).1 : Int), .int .i64 (costK LL.flatten key val).2]; unfold costK; rw [hb1]; rfl, ((((M10.bare.focus 0 rfl).drop).focus 0 rfl).focus 1 rfl)⟩
theorem kKeys_st {s : Nat} {st : KS} {S : Seg} (G : KvSt s st S) (M : Mem base h (S :: L) []) : Cll tab0 16 [.pointer (some ⟨s, 0, none⟩)] h (fun v h2 => v = .int .i64 ((st.F.length : Nat) : Int) ∧ ∃ S2, KvSt s st S2 ∧ Mem base h2 (S2 :: L) []) := by
  obtain ⟨p, Sp, LL, K, Mx, v, rfl, G, hI, M⟩ := G.open M
  refine Cll.code rfl rfl ?_
  refine WC.env [(0, _)] rfl ?_
  refine WC.seq (WC.run (C rfl rfl (WS.nil [(0, _)] rfl ?_)))
  refine WC.seq (WC.seq (WC.run (C rfl rfl (WS.opV (.bool false) rfl rfl rfl (WS.nil [(0, _), (4, _)] rfl ?_)))))
  refine WC.condF rfl (WC.skip (WC.seq (WC.run (C rfl rfl (C rfl rfl (C rfl rfl (C rfl (op_ld (M.at 0 rfl) rfl rfl) ?_)))))))
  refine WS.call rfl rfl rfl (Len_st G (M.bare.focus 1 rfl)) ?_
  rintro _ h1 ⟨rfl, M2⟩
  replace M2 : Mem _ _ (Sp :: [(s, _)] :: L) _ := M2
  refine C rfl rfl (WS.nil [(2, _)] rfl ?_)
  refine WC.ret (⟨[_], (res_tmp rfl res_nil), ?_⟩)
  exact ⟨rfl, (KvSt.shut G hI rfl rfl ((M2.focus 0 rfl).focus 1 rfl))⟩
theorem kBytes_st {s : Nat} {st : KS} {S : Seg} (G : KvSt s st S) (M : Mem base h (S :: L) []) : Cll tab0 17 [.pointer (some ⟨s, 0, none⟩)] h (fun v h2 => v = .int .i64 ((szF st.F : Nat) : Int) ∧ ∃ S2, KvSt s st S2 ∧ Mem base h2 (S2 :: L) []) := by
  obtain ⟨p, Sp, LL, K, Mx, v, rfl, G, hI, M⟩ := G.open M
  refine Cll.code rfl rfl ?_
  refine WC.env [(0, _)] rfl ?_
  refine WC.seq (WC.run (C rfl rfl (WS.nil [(0, _)] rfl ?_)))
  refine WC.seq (WC.seq (WC.run (C rfl rfl (WS.opV (.bool false) rfl rfl rfl (WS.nil [(0, _), (4, _)] rfl ?_)))))
  refine WC.condF rfl (WC.skip (WC.seq (WC.run (C rfl rfl (C rfl rfl (C rfl rfl (C rfl (op_ld (M.at 0 rfl) rfl rfl) (C rfl rfl (WS.nil [(2, _)] rfl ?_)))))))))
  refine WC.ret (⟨[_], (res_tmp rfl res_nil), ?_⟩)
  exact ⟨rfl, (KvSt.shut G hI rfl rfl M)⟩
end Go.Proofs.Ytkfjlbdedjoojaa.Wt
namespace Go.Proofs.Ytkfjlbdedjoojaa.Wt
open Go Go.Proofs.Ytkfjlbdedjoojaa.Am Go.Proofs.Ytkfjlbdedjoojaa.IrAll
open Go.Proofs.Ytkfjlbdedjoojaa.Am.WS renaming op → C
set_option linter.unusedVariables false
set_option linter.unusedSimpArgs false
variable {h base h2 : H} {L : List Seg} {R : List Nat}
theorem put_lenB {LL : List (List It)} {it : It} {b : Nat} (h : Inv LL) (hn : LL.flatten.length ≤ b) : (putL LL it).flatten.length ≤ b + 1 := by
  rw [(flat_put h).1]; have := (putF_len (it := it) h.2).2; omega
structure KOk (s : KS) : Prop where
  srt : SrtI s.F
  len : s.F.length ≤ s.K
  sz : szF s.F ≤ s.M
  K : s.K ≤ 2147483647
  M : s.M ≤ 2147483647
theorem addZ {a b : Int} (h1 : -9223372036854775808 ≤ a + b) (h2 : a + b < 9223372036854775808) : Value.int .i64 (IntKind.i64.wrap (a + b)) = .int .i64 (a + b) := by
  congr 1; rw [IntKind.wrap_i64]; omega
theorem len_eq {F : List It} {key : List UInt8} (h : SrtI F) : (F.filter fun x => decide (x.ky = key)).length = if (getV F key).2 = true then 1 else 0 := by
  induction F with
  | nil => rfl
  | cons x F ih =>
    obtain ⟨h1, h2⟩ := srt_cons.1 h
    by_cases c : x.ky = key
    · have e : F.filter (fun x => decide (x.ky = key)) = [] := by
        rw [List.filter_eq_nil_iff]
        intro y hy q
        have := h1 y hy
        rw [c, of_decide_eq_true q] at this; exact kL_irr this
      have g : getF (x :: F) key = some x := by unfold getF; rw [List.find?_cons_of_pos (by simpa using c)]
      rw [List.filter_cons_of_pos (by simpa using c), e]
      unfold getV; rw [g, if_pos rfl]; rfl
    · have g : getF (x :: F) key = getF F key := by unfold getF; rw [List.find?_cons_of_neg (by simpa using c)]
      have g2 : getV (x :: F) key = getV F key := by unfold getV; rw [g]
      rw [List.filter_cons_of_neg (by simpa using c), g2, ih h2]
theorem len_del {F : List It} {key : List UInt8} : F.length = (delF F key).length + (F.filter fun x => decide (x.ky = key)).length := by
  induction F with
  | nil => rfl
  | cons x F ih =>
    unfold delF at ih ⊢
    by_cases c : x.ky = key
    · rw [List.filter_cons_of_neg (by simpa using c), List.filter_cons_of_pos (by simpa using c), List.length_cons, List.length_cons]; omega
    · rw [List.filter_cons_of_pos (by simpa using c), List.filter_cons_of_neg (by simpa using c), List.length_cons, List.length_cons]; omega
theorem len_put {F : List It} {it : It} : (putF F it).length = (delF F it.ky).length + 1 := by
  have : ∀ F : List It, (delF F it.ky).length = (F.filter (fun x => decide (kL x.ky it.ky))).length + (F.filter (fun x => decide (kL it.ky x.ky))).length := by
    intro F
    induction F with
    | nil => rfl
    | cons x F ih =>
      unfold delF at ih ⊢
      by_cases c : x.ky = it.ky
      · rw [List.filter_cons_of_neg (by simpa using c), List.filter_cons_of_neg (by rw [c]; simpa using kL_irr), List.filter_cons_of_neg (by rw [c]; simpa using kL_irr)]; exact ih
      · by_cases d : kL x.ky it.ky
        · rw [List.filter_cons_of_pos (by simpa using c), List.filter_cons_of_pos (by simpa using d), List.filter_cons_of_neg (by simpa using kL_asym d), List.length_cons, List.length_cons]; omega
        · have d2 : kL it.ky x.ky := Classical.byContradiction fun q => c (kL_tot d q)
          rw [List.filter_cons_of_pos (by simpa using c), List.filter_cons_of_neg (by simpa using d), List.filter_cons_of_pos (by simpa using d2), List.length_cons, List.length_cons]; omega
  rw [this]; unfold putF; rw [List.length_append, List.length_cons]; omega
theorem len_cost {F : List It} {it : It} (h : SrtI F) : (putF F it).length = F.length + (costK F it.ky it.va).1 := by
  have h1 := len_put (F := F) (it := it)
  have h2 := len_del (F := F) (key := it.ky)
  have h3 := len_eq (key := it.ky) h
  unfold costK
  by_cases c : (getV F it.ky).2 = true
  · rw [if_pos c]; rw [if_pos c] at h3; simp only []; omega
  · rw [if_neg c]; rw [if_neg c] at h3; simp only []; omega
theorem put_ok {s : KS} {key val : List UInt8} {ls : UInt64} (h : KOk s) : KOk (putK s key val ls).1 := by
  unfold putK
  by_cases c : OverK s key val
  · rw [if_pos c]; exact h
  · rw [if_neg c]
    have c1 : ¬ s.K < s.F.length + (costK s.F key val).1 := fun q => c (.inl q)
    have c2 : ¬ (s.M : Int) < (szF s.F : Nat) + (costK s.F key val).2 := fun q => c (.inr q)
    have hz := sz_cost (it := ⟨key, val, UInt64.ofNat (s.v + 1), ls⟩) h.srt
    refine ⟨srt_put h.srt, ?_, ?_, h.K, h.M⟩
    · have hl := len_cost (it := ⟨key, val, UInt64.ofNat (s.v + 1), ls⟩) h.srt
      show (putF s.F _).length ≤ s.K
      rw [hl]; show s.F.length + (costK s.F key val).1 ≤ s.K; omega
    · show szF (putF s.F _) ≤ s.M
      have hz2 : ((szF (putF s.F ⟨key, val, UInt64.ofNat (s.v + 1), ls⟩) : Nat) : Int) = (szF s.F : Nat) + (costK s.F key val).2 := hz
      omega
set_option maxRecDepth 8000 in
theorem kPut_st {s : Nat} {st : KS} {S : Seg} {key val : List UInt8} {ls : UInt64} (G : KvSt s st S) (M : Mem base h (S :: L) []) (hok : KOk st) (hn : st.F.length ≤ 800000) (hk : key.length ≤ 1000000) (hvl : val.length ≤ 1000000) (hv : st.v < 18446744073709551615) : Cll tab0 28 [.pointer (some ⟨s, 0, none⟩), .string (bs key), .string (bs val), .int .u64 (ls.toNat : Int)] h (fun u h2 => u = .int .u8 (((putK st key val ls).2 : Nat) : Int) ∧ ∃ S2, KvSt s (putK st key val ls).1 S2 ∧ Mem base h2 (S2 :: L) []) := by
  obtain ⟨p, Sp, LL, K, Mx, v, rfl, G, hI, M⟩ := G.open M
  have hN : LL.flatten.length ≤ 800000 := hn
  have hm2 : szF LL.flatten ≤ 2147483647 := Nat.le_trans hok.sz hok.M
  have hK : K ≤ 2147483647 := hok.K
  have hMx : Mx ≤ 2147483647 := hok.M
  have hv2 : v < 18446744073709551615 := hv
  refine Cll.code rfl rfl ?_
  refine WC.env [(0, _), (1, _), (2, _), (3, _)] rfl ?_
  refine WC.seq (WC.run (C rfl rfl (WS.nil [(0, _), (1, _), (2, _), (3, _)] rfl ?_)))
  refine WC.seq (WC.seq (WC.run (C rfl rfl (WS.opV (.bool false) rfl rfl rfl (WS.nil [(0, _), (1, _), (2, _), (3, _), (12, _)] rfl ?_)))))
  refine WC.condF rfl (WC.skip (WC.seq (WC.run (C rfl rfl (C rfl rfl (C rfl rfl ?_))))))
  refine WS.call rfl rfl rfl (kcost_ran (key := key) (val := val) G hI ((M.bare.focus 1 rfl).focus 1 rfl) hm2 hN hk hvl) ?_
  rintro _ h1 ⟨rfl, M2⟩
  replace M2 : Mem _ _ ([(s, _)] :: Sp :: L) _ := M2
  have hch := cost_hi (F := LL.flatten) (key := key) (val := val)
  have hcl := cost_lo (F := LL.flatten) (key := key) (val := val) (hI).2
  refine C rfl rfl (C rfl rfl (C rfl rfl (C rfl rfl (C rfl rfl (WS.nil [(0, _), (1, _), (2, _), (3, _), (9, _), (10, _)] rfl ?_)))))
  refine WC.seq (WC.seq (WC.draw M2 [] rfl ?_))
  intro rb3 h4 M5
  refine C rfl rfl (C rfl rfl (C rfl rfl (C rfl (op_ld (M5.at 0 rfl) rfl rfl) (C rfl rfl (C rfl rfl (C rfl rfl (C rfl rfl (C rfl (op_ld (M5.at 0 rfl) rfl rfl) ?_))))))))
  refine WS.call rfl rfl rfl (Len_st G (M5.bare.focus 1 rfl)) ?_
  rintro _ h6 ⟨rfl, M7⟩
  replace M7 : Mem _ _ (Sp :: [(s, _)] :: L) _ := M7
  refine WS.chk rfl (op_ld (M7.at 1 rfl) rfl rfl) rfl (sameV_refl rfl) (WS.opV (.int .i64 ((((LL).flatten.length + (costK LL.flatten key val).1) : Nat) : Int)) rfl rfl (add_i64 (a := (LL).flatten.length) (b := (costK LL.flatten key val).1) (by omega)) ?_)
  refine WS.gtrN (a := ((LL).flatten.length + (costK LL.flatten key val).1)) (b := K) rfl rfl rfl (fun e31 => ?_) (fun e31 => ?_)
  ·
   refine C rfl rfl (WS.off rfl (WS.off rfl (WS.off rfl (WS.off rfl (WS.off rfl (WS.off rfl (WS.off rfl (WS.off rfl (WS.off rfl ?_)))))))))
   refine WS.off rfl (WS.off rfl (C rfl rfl (WS.nil [(0, _), (1, _), (2, _), (3, _), (10, _), (44, _)] rfl ?_)))
   refine WC.condT rfl (WC.seq (WC.run (C rfl rfl (WS.nil [(8, _)] rfl ?_))))
   refine WC.ret (⟨[_], (res_tmp rfl res_nil), ?_⟩)
   have e : putK (⟨LL.flatten, K, Mx, v⟩ : KS) key val ls = ((⟨LL.flatten, K, Mx, v⟩ : KS), 3) := by unfold putK; exact if_pos (by first | exact .inl e31 | exact .inr e43)
   rw [e]
   exact ⟨rfl, (KvSt.shut G hI rfl rfl ((M7.bare.focus 0 rfl).focus 1 rfl))⟩
  ·
   refine C rfl rfl (C rfl rfl (C rfl rfl (C rfl rfl (C rfl (op_ld (M7.at 1 rfl) rfl rfl) (C rfl rfl (WS.opV (.int .i64 (((szF LL.flatten : Nat) : Int) + (costK LL.flatten key val).2)) rfl rfl (addZ (by omega) (by omega)) (C rfl rfl (C rfl rfl (C rfl rfl ?_)))))))))
   refine C rfl (op_ld (M7.at 1 rfl) rfl rfl) ?_
   refine WS.gtr (a := (((szF LL.flatten : Nat) : Int) + (costK LL.flatten key val).2)) (b := ((Mx : Nat) : Int)) rfl rfl rfl (fun e43 => ?_) (fun e43 => ?_)
   ·
    refine C rfl rfl (WS.nil [(0, _), (1, _), (2, _), (3, _), (10, _), (44, _)] rfl ?_)
    refine WC.condT rfl (WC.seq (WC.run (C rfl rfl (WS.nil [(8, _)] rfl ?_))))
    refine WC.ret (⟨[_], (res_tmp rfl res_nil), ?_⟩)
    have e : putK (⟨LL.flatten, K, Mx, v⟩ : KS) key val ls = ((⟨LL.flatten, K, Mx, v⟩ : KS), 3) := by unfold putK; exact if_pos (by first | exact .inl e31 | exact .inr e43)
    rw [e]
    exact ⟨rfl, (KvSt.shut G hI rfl rfl ((M7.bare.focus 0 rfl).focus 1 rfl))⟩
   ·
    refine C rfl rfl (WS.nil [(0, _), (1, _), (2, _), (3, _), (10, _), (44, _)] rfl ?_)
    refine WC.condF rfl (WC.skip (WC.seq (WC.run (C rfl rfl (C rfl rfl (C rfl rfl (C rfl (op_ld (M7.bare.at 1 rfl) rfl rfl) (WS.opV (.int .u64 (((v + 1) : Nat) : Int)) rfl rfl (add_u64 (a := v) (b := 1) (by omega)) (C rfl rfl (C rfl rfl ?_))))))))))
    refine WS.st1 (M7.bare.focus 1 rfl) [_] [_, _, _, _, _] rfl rfl rfl rfl rfl (Nat.le_of_ble_eq_true rfl) (Nat.le_of_ble_eq_true rfl) rfl rfl ?_
    intro h8 M9
    replace M9 : Mem _ _ ([(s, _)] :: Sp :: L) _ := M9
    refine WS.nil [(0, _), (1, _), (2, _), (3, _), (10, _)] rfl ?_
    refine WC.seq (WC.run (C rfl rfl (C rfl rfl (C rfl rfl (C rfl (op_ld (M9.at 0 rfl) rfl rfl) (C rfl rfl (WS.opV (.int .i64 ((szF (putF LL.flatten (⟨key, val, UInt64.ofNat (v + 1), ls⟩ : It)) : Nat) : Int)) rfl rfl ((addZ (by omega) (by omega)).trans (congrArg (Value.int .i64) (sz_cost (it := (⟨key, val, UInt64.ofNat (v + 1), ls⟩ : It)) hI.2).symm)) (C rfl rfl (C rfl rfl ?_)))))))))
    refine WS.st1 (M9.focus 0 rfl) [_] [_, _, _, _, _] rfl rfl rfl rfl rfl (Nat.le_of_ble_eq_true rfl) (Nat.le_of_ble_eq_true rfl) rfl rfl ?_
    intro h10 M11
    replace M11 : Mem _ _ ([(s, _)] :: Sp :: L) _ := M11
    refine WS.nil [(0, _), (1, _), (2, _), (3, _)] rfl ?_
    refine WC.seq (WC.draw M11 [] rfl ?_)
    intro rb12 h13 M14
    refine C rfl rfl (C rfl rfl (C rfl rfl (C rfl (op_ld (M14.at 0 rfl) rfl rfl) (C rfl rfl (C rfl rfl (C rfl rfl (C rfl rfl (C rfl rfl (WS.opV (.int .u64 (((UInt64.ofNat (v + 1)).toNat : Nat) : Int)) rfl (op_ld (M14.at 0 rfl) rfl rfl) (u64_ofNat (n := (v + 1)) (by omega)) ?_)))))))))
    refine C rfl rfl (WS.opV (.agg #[(.string (bs val)), (.int .u64 (((UInt64.ofNat (v + 1)).toNat : Nat) : Int)), (.int .u64 (((ls).toNat : Nat) : Int))]) rfl rfl rfl ?_)
    refine WS.call rfl rfl rfl (Put_ran (key := key) (v := (⟨val, (UInt64.ofNat (v + 1)), ls⟩ : Vl)) G (M14.bare.focus 1 rfl) hI (Nat.le_trans hN (by omega))) ?_
    rintro _ h15 ⟨rfl, S17, G18, M16⟩
    replace M16 : Mem _ _ (S17 :: [(s, _)] :: L) _ := M16
    have I19 : Inv (putL LL (⟨key, val, (UInt64.ofNat (v + 1)), ls⟩ : It)) := (flat_put hI).2
    have N20 := put_lenB (it := (⟨key, val, (UInt64.ofNat (v + 1)), ls⟩ : It)) hI hN
    refine WS.nil [] rfl ?_
    refine WC.seq (WC.run (C rfl rfl (WS.nil [(8, _)] rfl ?_)))
    refine WC.ret (⟨[_], (res_tmp rfl res_nil), ?_⟩)
    have e : putK (⟨LL.flatten, K, Mx, v⟩ : KS) key val ls = (⟨putF LL.flatten (⟨key, val, UInt64.ofNat (v + 1), ls⟩ : It), K, Mx, v + 1⟩, 0) := by unfold putK; exact if_neg (fun q => q.elim (Nat.not_lt.2 e31) (Int.not_lt.2 e43))
    rw [e]
    exact ⟨rfl, (KvSt.shut G18 I19 (flat_put hI).1 rfl ((M16.bare.focus 0 rfl).focus 1 rfl))⟩
end Go.Proofs.Ytkfjlbdedjoojaa.Wt
namespace Go.Proofs.Ytkfjlbdedjoojaa.Wt
open Go Go.Proofs.Ytkfjlbdedjoojaa.Am Go.Proofs.Ytkfjlbdedjoojaa.IrAll
set_option linter.unusedVariables false
set_option linter.unusedSimpArgs false
variable {h base h2 : H} {L : List Seg} {R : List Nat}
theorem range_all62 {F : List It} (h : F.length ≤ 4611686018427387903) : rangeF F [] [] (4611686018427387903 : Int) = F := by
  unfold rangeF geF
  have e1 : F.filter (fun x => !decide (kL x.ky [])) = F := filter_all fun x _ => by rw [decide_eq_false kL_nil]; rfl
  have e2 : F.filter (fun x => decide (okTo [] x)) = F := filter_all fun x _ => decide_eq_true (Or.inl rfl)
  rw [e1, e2, List.take_of_length_le (by omega)]
theorem put_end {F : List It} {x : It} (h : ∀ y ∈ F, kL y.ky x.ky) : putF F x = F ++ [x] := by
  unfold putF
  rw [filter_all fun y hy => decide_eq_true (h y hy), List.filter_eq_nil_iff.2 fun y hy q => kL_asym (h y hy) (of_decide_eq_true q)]
theorem drop_at {α : Type} {l : List α} {i : Nat} {x : α} (hx : l[i]? = some x) : l.drop i = x :: l.drop (i + 1) := by
  rw [← (List.getElem?_eq_some_iff.1 hx).2, List.getElem_cons_drop]
theorem put_grow {s : KS} {key val : List UInt8} {ls : UInt64} (h : KOk s) : (putK s key val ls).1.F.length ≤ s.F.length + 1 ∧ (putK s key val ls).1.v ≤ s.v + 1 := by
  unfold putK; split
  · exact ⟨by simp only []; omega, by simp only []; omega⟩
  · exact ⟨(putF_len h.srt).2, Nat.le_refl _⟩
end Go.Proofs.Ytkfjlbdedjoojaa.Wt
namespace Go.Proofs.Ytkfjlbdedjoojaa.Wt
open Go Go.Proofs.Ytkfjlbdedjoojaa.Am Go.Proofs.Ytkfjlbdedjoojaa.IrAll
open Go.Proofs.Ytkfjlbdedjoojaa.Am.WS renaming op → C
open List renaming length_append → D
open Go.Proofs.Ytkfjlbdedjoojaa.Am.WC renaming seq → F
open Go.Proofs.Ytkfjlbdedjoojaa.Am.WS renaming nil → G
open Go.Proofs.Ytkfjlbdedjoojaa.Am.WC renaming run → J
open List renaming length_singleton → U
open List renaming length_cons → X
open Go.Proofs.Ytkfjlbdedjoojaa.Am.WS renaming opV → Y
open List renaming length_drop → AQ
open List renaming length_take → AX
open List renaming length_nil → AZ
open Go.Proofs.Ytkfjlbdedjoojaa.Am.WS renaming off → BQ
set_option linter.unusedVariables false
set_option linter.unusedSimpArgs false
def hi (n : Nat) : List UInt8 := if h : n = 0 then [] else hi (n / 128) ++ [UInt8.ofNat (128 + n % 128)]
termination_by n
decreasing_by omega
def vb (n : Nat) : List UInt8 := hi (n / 128) ++ [UInt8.ofNat (n % 128)]
theorem hi_zero : hi 0 = [] := by unfold hi; simp
theorem hi_pos {n : Nat} (h : n ≠ 0) : hi n = hi (n / 128) ++ [UInt8.ofNat (128 + n % 128)] := by
  conv => lhs; unfold hi
  rw [dif_neg h]
theorem hi_nil {n : Nat} (h : hi n = []) : n = 0 := by
  by_cases c : n = 0
  · exact c
  · rw [hi_pos c] at h; simp at h
theorem hi_step {n r : Nat} (hr : r < 128) (h : n ≠ 0 ∨ r ≠ 0) : hi (n * 128 + r) = hi n ++ [UInt8.ofNat (128 + r)] := by
  rw [hi_pos (by omega), show (n * 128 + r) / 128 = n by omega, show (n * 128 + r) % 128 = r by omega]
theorem hi_length {k : Nat} : ∀ {n : Nat}, n < 128 ^ k → (hi n).length ≤ k := by
  induction k with
  | zero => intro n h; have : n = 0 := by simpa using h
            subst this; rw [hi_zero]; simp
  | succ k ih =>
    intro n h
    by_cases c : n = 0
    · subst c; rw [hi_zero]; simp
    · rw [hi_pos c, D]
      have : n / 128 < 128 ^ k := by rw [Nat.pow_succ] at h; omega
      have := ih this
      simp; omega
theorem vb_ne (n : Nat) : vb n ≠ [] := by simp [vb]
theorem vb_step {n r : Nat} (hr : r < 128) : vb (n * 128 + r) = hi n ++ [UInt8.ofNat r] := by
  unfold vb; rw [show (n * 128 + r) / 128 = n by omega, show (n * 128 + r) % 128 = r by omega]
theorem vb_len {n : Nat} (h : n < 18446744073709551616) : (vb n).length ≤ 10 := by
  have : (hi (n / 128)).length ≤ 9 := hi_length (by omega)
  simp [vb]; omega
def rv : List UInt8 → Nat → Nat → Option (Nat × Nat)
  | [], _, _ => none
  | c :: s, n, k => if (k = 0 ∧ c.toNat = 128) ∨ 144115188075855872 ≤ n then none else if c.toNat < 128 then some (n * 128 + c.toNat, k + 1) else rv s (n * 128 + (c.toNat - 128)) (k + 1)
def numG (s : List UInt8) : Option (Nat × Nat) := rv s 0 0
def rvN (s : List UInt8) : Nat := match numG s with | some p => p.1 | none => 0
def rvK (s : List UInt8) : Nat := match numG s with | some p => p.2 | none => 0
def rvOK (s : List UInt8) : Bool := (numG s).isSome
theorem ofNat_toNat (c : UInt8) : UInt8.ofNat c.toNat = c := by simp
theorem toNat_ofNat {n : Nat} (h : n < 256) : (UInt8.ofNat n).toNat = n := by
  simp [UInt8.toNat_ofNat']; omega
theorem rv_sound : ∀ (s : List UInt8) (n k m j : Nat) (p : List UInt8), rv s n k = some (m, j) → hi n = p → p.length = k → ∃ t r, s = t ++ r ∧ p ++ t = vb m ∧ j = (p ++ t).length ∧ m < 18446744073709551616 := by
  intro s
  induction s with
  | nil => intro n k m j p h; cases h
  | cons c s ih =>
    intro n k m j p h hp hk
    simp only [rv] at h
    split at h
    · cases h
    · rename_i hc
      have hc2 := c.toNat_lt
      split at h
      · rename_i hl; cases h
        refine ⟨[c], s, rfl, ?_, by simp [hk], by omega⟩
        rw [vb_step hl, ofNat_toNat, hp]
      · rename_i hl
        have hn : n ≠ 0 ∨ c.toNat - 128 ≠ 0 := by
          by_cases c0 : n = 0
          · right; intro c1
            have : p = [] := by rw [← hp, c0, hi_zero]
            exact hc (.inl ⟨by rw [← hk, this]; rfl, by omega⟩)
          · exact .inl c0
        have h2 := hi_step (n := n) (r := c.toNat - 128) (by omega) hn
        rw [show 128 + (c.toNat - 128) = c.toNat by omega, ofNat_toNat, hp] at h2
        obtain ⟨t, r, e1, e2, e3, e4⟩ := ih _ _ _ _ _ h h2 (by simp [hk])
        exact ⟨c :: t, r, by rw [e1]; rfl, by rw [← e2]; simp, by rw [e3]; simp, e4⟩
theorem rv_hi : ∀ (m : Nat) (r : List UInt8), m < 144115188075855872 → rv (hi m ++ r) 0 0 = rv r m (hi m).length := by
  intro m
  induction m using Nat.strongRecOn with
  | _ m ih =>
    intro r hm
    by_cases c : m = 0
    · subst c; rw [hi_zero]; rfl
    · have hx : (UInt8.ofNat (128 + m % 128)).toNat = 128 + m % 128 := toNat_ofNat (by omega)
      rw [hi_pos c, List.append_assoc, ih (m / 128) (by omega) _ (by omega), List.singleton_append]
      simp only [rv]
      rw [if_neg, if_neg (by rw [hx]; omega), hx]
      · rw [show m / 128 * 128 + (128 + m % 128 - 128) = m by omega]; simp
      · rintro (⟨h1, h2⟩ | h2)
        · have : m / 128 = 0 := hi_nil (List.eq_nil_of_length_eq_zero h1)
          rw [hx] at h2; omega
        · omega
theorem numG_vb {n : Nat} (h : n < 18446744073709551616) (r : List UInt8) : numG (vb n ++ r) = some (n, (vb n).length) := by
  unfold numG vb
  have hx : (UInt8.ofNat (n % 128)).toNat = n % 128 := toNat_ofNat (by omega)
  rw [List.append_assoc, rv_hi _ _ (by omega), List.singleton_append]
  simp only [rv]
  rw [if_neg, if_pos (by rw [hx]; omega), hx]
  · rw [show n / 128 * 128 + n % 128 = n by omega]; simp
  · rintro (⟨h1, h2⟩ | h2)
    · rw [hx] at h2; omega
    · omega
theorem numG_some {s : List UInt8} {n k : Nat} (h : numG s = some (n, k)) : s = vb n ++ s.drop k ∧ k = (vb n).length ∧ n < 18446744073709551616 := by
  obtain ⟨t, r, e1, e2, e3, e4⟩ := rv_sound s 0 0 n k [] h hi_zero rfl
  simp only [List.nil_append] at e2 e3
  subst e1
  refine ⟨?_, by rw [e3, e2], e4⟩
  rw [e3, ← e2, List.drop_left]
theorem numG_le {s : List UInt8} {n k : Nat} (h : numG s = some (n, k)) : 1 ≤ k ∧ k ≤ s.length ∧ k ≤ 10 := by
  obtain ⟨e1, e2, e3⟩ := numG_some h
  have h1 : 0 < (vb n).length := List.length_pos_iff.2 (vb_ne n)
  have h2 := congrArg List.length e1
  have h3 := vb_len e3
  simp only [D] at h2; omega
theorem rvK_le (s : List UInt8) : rvK s ≤ s.length ∧ rvK s ≤ 10 := by
  unfold rvK; split
  · rename_i p hp; exact ⟨(numG_le hp).2.1, (numG_le hp).2.2⟩
  · simp
theorem rvN_lt (s : List UInt8) : rvN s < 18446744073709551616 := by
  unfold rvN; split
  · rename_i p hp; exact (numG_some hp).2.2
  · omega
theorem rv_eq_some {s : List UInt8} {n k : Nat} (h : numG s = some (n, k)) : rvN s = n ∧ rvK s = k ∧ rvOK s = true := by simp [rvN, rvK, rvOK, h]
theorem rv_eq_none {s : List UInt8} (h : numG s = none) : rvN s = 0 ∧ rvK s = 0 ∧ rvOK s = false := by simp [rvN, rvK, rvOK, h]
theorem numG_eq (s : List UInt8) : numG s = if rvOK s then some (rvN s, rvK s) else none := by
  unfold rvN rvK rvOK; cases numG s <;> simp
def sb (t : List UInt8) : List UInt8 := vb t.length ++ t
def getS (s : List UInt8) : Option (List UInt8 × Nat) := match numG s with
  | some (n, k) => if n ≤ s.length - k then some ((s.drop k).take n, k + n) else none
  | none => none
def rsT (s : List UInt8) : List UInt8 := match getS s with | some p => p.1 | none => []
def rsK (s : List UInt8) : Nat := match getS s with | some p => p.2 | none => 0
def rsOK (s : List UInt8) : Bool := (getS s).isSome
theorem getS_sb {t : List UInt8} (h : t.length < 18446744073709551616) (r : List UInt8) : getS (sb t ++ r) = some (t, (sb t).length) := by
  unfold getS sb
  rw [List.append_assoc, numG_vb h]
  simp
theorem getS_some {s t : List UInt8} {k : Nat} (h : getS s = some (t, k)) : s = sb t ++ s.drop k ∧ k = (sb t).length ∧ t.length < 18446744073709551616 := by
  unfold getS at h
  split at h
  · rename_i n j hv
    obtain ⟨e1, e2, e3⟩ := numG_some hv
    have hl := congrArg List.length e1
    simp only [D, AQ] at hl
    split at h
    · rename_i hn; cases h
      have hlen : ((s.drop j).take n).length = n := by simp; omega
      refine ⟨?_, by unfold sb; rw [D, hlen, ← e2], by rw [hlen]; exact e3⟩
      unfold sb; rw [hlen, List.append_assoc]
      conv => lhs; rw [e1]
      congr 1
      conv => lhs; rw [← List.take_append_drop n (s.drop j)]
      rw [List.drop_drop]
    · cases h
  · cases h
theorem getS_le {s t : List UInt8} {k : Nat} (h : getS s = some (t, k)) : 1 ≤ k ∧ k ≤ s.length ∧ t.length ≤ k := by
  obtain ⟨e1, e2, e3⟩ := getS_some h
  have h1 : 0 < (vb t.length).length := List.length_pos_iff.2 (vb_ne _)
  have h2 := congrArg List.length e1
  simp only [sb, D] at h2 e2; omega
theorem rsK_le (s : List UInt8) : rsK s ≤ s.length := by
  unfold rsK; split
  · rename_i p hp; exact (getS_le hp).2.1
  · simp
theorem rsT_le (s : List UInt8) : (rsT s).length ≤ s.length := by
  unfold rsT; split
  · rename_i p hp; have := getS_le hp; omega
  · simp
theorem rs_eq_some {s t : List UInt8} {k : Nat} (h : getS s = some (t, k)) : rsT s = t ∧ rsK s = k ∧ rsOK s = true := by simp [rsT, rsK, rsOK, h]
theorem rs_eq_none {s : List UInt8} (h : getS s = none) : rsT s = [] ∧ rsK s = 0 ∧ rsOK s = false := by simp [rsT, rsK, rsOK, h]
theorem getS_eq (s : List UInt8) : getS s = if rsOK s then some (rsT s, rsK s) else none := by
  unfold rsT rsK rsOK; cases getS s <;> simp
theorem sb_len {t : List UInt8} (h : t.length < 18446744073709551616) : (sb t).length ≤ t.length + 10 := by
  have := vb_len h; simp [sb]; omega
theorem bv8 (a : Nat) (h : a < 256) (b : Nat) (hb : b < 256) : IntKind.u8.wrap ((BitVec.ofInt IntKind.u8.bits (a : Int) &&& BitVec.ofInt IntKind.u8.bits (b : Int)).toNat : Nat) = ((a &&& b : Nat) : Int) := by
  have h1 : a &&& b ≤ a := Nat.and_le_left
  have e1 : ((a : Int) % ((2 ^ 8 : Nat) : Int)).toNat = a := by omega
  have e2 : ((b : Int) % ((2 ^ 8 : Nat) : Int)).toNat = b := by omega
  have key : (BitVec.ofInt 8 (a : Int) &&& BitVec.ofInt 8 (b : Int)).toNat = a &&& b := by simp only [BitVec.toNat_and, BitVec.toNat_ofInt]; rw [e1, e2]
  show IntKind.u8.wrap ((BitVec.ofInt 8 (a : Int) &&& BitVec.ofInt 8 (b : Int)).toNat : Int) = _
  rw [key, IntKind.wrap_u8]; omega
theorem and127 (a : Nat) : a &&& 127 = a % 128 := Nat.and_two_pow_sub_one_eq_mod a 7
theorem low_u8 (c : UInt8) : Value.int .u8 (IntKind.u8.wrap ((BitVec.ofInt IntKind.u8.bits (c.toNat : Int) &&& BitVec.ofInt IntKind.u8.bits 127).toNat : Nat)) = .int .u8 ((c.toNat % 128 : Nat) : Int) := by
  have := bv8 c.toNat c.toNat_lt 127 (by omega)
  rw [and127] at this; rw [← this]; rfl
theorem more_all : ∀ a : Fin 256, a.val &&& 128 = if a.val < 128 then 0 else 128 := by decide +kernel
theorem more_u8 (c : UInt8) : Value.int .u8 (IntKind.u8.wrap ((BitVec.ofInt IntKind.u8.bits (c.toNat : Int) &&& BitVec.ofInt IntKind.u8.bits 128).toNat : Nat)) = .int .u8 ((if c.toNat < 128 then 0 else 128 : Nat) : Int) := by
  have h := bv8 c.toNat c.toNat_lt 128 (by omega)
  have h2 := more_all ⟨c.toNat, c.toNat_lt⟩
  simp only at h2
  rw [h2] at h; rw [← h]; rfl
theorem bv64 (a b : Nat) (h : a < 18446744073709551616) (hb : b < 18446744073709551616) : IntKind.u64.wrap ((BitVec.ofInt IntKind.u64.bits (a : Int) &&& BitVec.ofInt IntKind.u64.bits (b : Int)).toNat : Nat) = ((a &&& b : Nat) : Int) := by
  have h1 : a &&& b ≤ a := Nat.and_le_left
  have e1 : ((a : Int) % ((2 ^ 64 : Nat) : Int)).toNat = a := by omega
  have e2 : ((b : Int) % ((2 ^ 64 : Nat) : Int)).toNat = b := by omega
  have key : (BitVec.ofInt 64 (a : Int) &&& BitVec.ofInt 64 (b : Int)).toNat = a &&& b := by simp only [BitVec.toNat_and, BitVec.toNat_ofInt]; rw [e1, e2]
  show IntKind.u64.wrap ((BitVec.ofInt 64 (a : Int) &&& BitVec.ofInt 64 (b : Int)).toNat : Int) = _
  rw [key, wu64]; omega
theorem bvo64 (a b : Nat) (h : a < 18446744073709551616) (hb : b < 18446744073709551616) : IntKind.u64.wrap ((BitVec.ofInt IntKind.u64.bits (a : Int) ||| BitVec.ofInt IntKind.u64.bits (b : Int)).toNat : Nat) = ((a ||| b : Nat) : Int) := by
  have h1 : a ||| b < 2 ^ 64 := Nat.or_lt_two_pow (by omega) (by omega)
  have e1 : ((a : Int) % ((2 ^ 64 : Nat) : Int)).toNat = a := by omega
  have e2 : ((b : Int) % ((2 ^ 64 : Nat) : Int)).toNat = b := by omega
  have key : (BitVec.ofInt 64 (a : Int) ||| BitVec.ofInt 64 (b : Int)).toNat = a ||| b := by simp only [BitVec.toNat_or, BitVec.toNat_ofInt]; rw [e1, e2]
  show IntKind.u64.wrap ((BitVec.ofInt 64 (a : Int) ||| BitVec.ofInt 64 (b : Int)).toNat : Int) = _
  rw [key, wu64]; omega
theorem or_add (n r : Nat) (hr : r < 128) : n * 128 ||| r = n * 128 + r := by
  have := Nat.two_pow_add_eq_or_of_lt (i := 7) (b := r) (by omega) n
  rw [Nat.mul_comm n 128]; exact this.symm
theorem shl7 {n : Nat} (h : n < 144115188075855872) : Value.int .u64 (IntKind.u64.wrap ((n : Int) * 2 ^ (min (Int.toNat 7) IntKind.u64.bits))) = .int .u64 ((n * 128 : Nat) : Int) := by
  congr 1
  have : (2 : Int) ^ (min (Int.toNat 7) IntKind.u64.bits) = 128 := by decide
  rw [this, wu64]; omega
theorem or7 {n r : Nat} (h : n * 128 < 18446744073709551616) (hr : r < 128) : Value.int .u64 (IntKind.u64.wrap ((BitVec.ofInt IntKind.u64.bits ((n * 128 : Nat) : Int) ||| BitVec.ofInt IntKind.u64.bits (r : Int)).toNat : Nat)) = .int .u64 ((n * 128 + r : Nat) : Int) := by
  congr 1; rw [bvo64 _ _ h (by omega), or_add _ _ hr]
theorem fdiv_nat (n k : Nat) : Int.fdiv (n : Int) (k : Int) = ((n / k : Nat) : Int) := by
  rw [Int.fdiv_eq_ediv_of_nonneg _ (by omega)]; rfl
theorem shr57 (n : Nat) : Value.int .u64 (Int.fdiv (n : Int) (2 ^ (min (Int.toNat 57) IntKind.u64.bits))) = .int .u64 ((n / 144115188075855872 : Nat) : Int) := by
  congr 1
  have : (2 : Int) ^ (min (Int.toNat 57) IntKind.u64.bits) = ((144115188075855872 : Nat) : Int) := by decide
  rw [this, fdiv_nat]
theorem shr7 (n : Nat) : Value.int .u64 (Int.fdiv (n : Int) (2 ^ (min (Int.toNat 7) IntKind.u64.bits))) = .int .u64 ((n / 128 : Nat) : Int) := by
  congr 1
  have : (2 : Int) ^ (min (Int.toNat 7) IntKind.u64.bits) = ((128 : Nat) : Int) := by decide
  rw [this, fdiv_nat]
theorem drop_cons {l : List UInt8} {k : Nat} {c : UInt8} (hc : l[k]? = some c) : l.drop k = c :: l.drop (k + 1) := by
  obtain ⟨h1, h2⟩ := List.getElem?_eq_some_iff.1 hc
  rw [List.drop_eq_getElem_cons h1, h2]
def rvV (l : List UInt8) : Value := .tuple #[.int .u64 (rvN l : Int), .int .i64 (rvK l : Int), .bool (rvOK l)]
theorem rvV_some {l : List UInt8} {n k : Nat} (h : numG l = some (n, k)) : rvV l = .tuple #[.int .u64 (n : Int), .int .i64 (k : Int), .bool true] := by
  obtain ⟨e1, e2, e3⟩ := rv_eq_some h; simp only [rvV, e1, e2, e3]
theorem rvV_none {l : List UInt8} (h : numG l = none) : rvV l = .tuple #[.int .u64 0, .int .i64 0, .bool false] := by
  obtain ⟨e1, e2, e3⟩ := rv_eq_none h; simp only [rvV, e1, e2, e3]; rfl
theorem rv_ten {s : List UInt8} {n k : Nat} (hk : 10 ≤ k) (hn : (hi n).length = k) : rv s n k = none := by
  have : 144115188075855872 ≤ n := by
    rcases Nat.lt_or_ge n 144115188075855872 with h | h
    · have := hi_length (k := 9) (n := n) (by omega); omega
    · exact h
  cases s with
  | nil => rfl
  | cons c s => simp only [rv]; rw [if_pos (.inr this)]
theorem len_step {n k c : Nat} (hc : 128 ≤ c) (hc2 : c < 256) (i3 : (hi n).length = k) (hp : ¬(k = 0 ∧ c = 128)) : (hi (n * 128 + c % 128)).length = k + 1 := by
  rw [hi_step (by omega), D, i3]; rfl
  by_cases q : n = 0
  · subst q; rw [hi_zero] at i3; simp at i3; right; omega
  · exact .inl q
theorem more_zero {c : Nat} (h : (if c < 128 then 0 else 128 : Nat) = 0) : c < 128 := by
  by_cases q : c < 128
  · exact q
  · rw [if_neg q] at h; simp at h
theorem more_ne {c : Nat} (h : (if c < 128 then 0 else 128 : Nat) ≠ 0) : 128 ≤ c := by
  by_cases q : c < 128
  · rw [if_pos q] at h; simp at h
  · omega
theorem num_ReadV_ran {h : H} (W : Mem h h [] []) {l : List UInt8} (hl : l.length < 9223372036854775808) : Cll tab0 49 [.string (bs l)] h (fun v h2 => v = rvV l ∧ Mem h h2 [] []) := by
  refine Cll.code rfl rfl ?_
  refine WC.env [(0, _)] rfl ?_
  refine F (J (C rfl rfl (C rfl rfl (C rfl rfl (G [(0, _), (2, _), (3, _)] rfl ?_)))))
  refine F (WC.block ?_)
  obtain ⟨L1, eL3, M2⟩ := Mem.name W.bare
  refine WC.loop (σ := Nat × Nat) (fun ((n, k)) => [(0, (.string (bs l))), (2, (.int .u64 ((n : Nat) : Int))), (3, (.int .i64 ((k : Nat) : Int)))]) (fun ((n, k)) hh => Mem h hh (L1) [] ∧ numG l = rv (l.drop k) n k ∧ k ≤ l.length ∧ (hi n).length = k ∧ n < 18446744073709551616) (fun ((n, k)) => l.length - k) (0, 0) rfl ⟨M2, ?_⟩ ?_
  · exact ⟨rfl, by omega, by rw [hi_zero]; rfl, by omega⟩
  ·rintro ⟨n, k⟩ h4 ⟨M5, ⟨i1, i2, i3, i4⟩⟩
   replace eL3 := eL3.symm; subst eL3
   refine WC.env [(0, _), (2, _), (3, _)] rfl ?_
   refine F (F (J (C rfl rfl (C rfl rfl (C rfl (op_lenS (l := l) rfl) ?_)))))
   refine WS.lssN (a := k) (b := (l).length) rfl rfl rfl (fun e9 => ?_) (fun e9 => ?_)
   ·
    refine C rfl rfl (C rfl rfl ?_)
    refine WS.lssN (a := k) (b := 10) rfl rfl rfl (fun e12 => ?_) (fun e12 => ?_)
    ·
     refine C rfl rfl (G [(0, _), (2, _), (3, _), (13, _)] rfl ?_)
     refine WC.condT rfl (WC.skip (WC.block (F (J (C rfl rfl (C rfl rfl ?_))))))
     obtain ⟨c, hc⟩ : ∃ c, l[k]? = some c := ⟨_, List.getElem?_eq_getElem (show k < l.length by omega)⟩
     have hcl := c.toNat_lt
     rw [drop_cons hc] at i1
     simp only [rv] at i1
     refine C rfl (op_ixS k rfl rfl hc) (C rfl rfl (G [(0, _), (2, _), (3, _), (5, _)] rfl ?_))
     refine F (F ?_)
     obtain ⟨L6, eL8, M7⟩ := Mem.name M5.bare
     refine WC.joinB (base := h) (fun b => [(0, (.string (bs l))), (2, (.int .u64 ((n : Nat) : Int))), (3, (.int .i64 ((k : Nat) : Int))), (5, (.int .u8 (((c).toNat : Nat) : Int))), (27, .bool b)]) L6 (numG l = none) (¬(k = 0 ∧ c.toNat = 128) ∧ n < 144115188075855872) ?_ ?_ ?_
     ·replace eL8 := eL8.symm; subst eL8
      refine C rfl rfl ?_
      refine WS.eqlN (a := k) (b := 0) rfl rfl rfl (fun e18 => ?_) (fun e18 => ?_)
      ·
       refine C rfl rfl (C rfl rfl ?_)
       refine WS.eqlN (a := (c).toNat) (b := 128) rfl rfl rfl (fun e21 => ?_) (fun e21 => ?_)
       ·
        refine C rfl rfl (C rfl rfl (BQ rfl (BQ rfl (BQ rfl (C rfl rfl ?_)))))
        refine WS.nil' ⟨true, rfl, (M7.bare.take 0), fun _ => ?_, fun hh => ?_⟩
        · rw [i1, if_pos (by omega)]
        · cases hh
       ·
        refine C rfl rfl (C rfl rfl (C rfl rfl (Y (.int .u64 ((n / 144115188075855872 : Nat) : Int)) rfl rfl (shr57 n) ?_)))
        refine WS.gtrN (a := (n / 144115188075855872)) (b := 0) rfl rfl rfl (fun e26 => ?_) (fun e26 => ?_)
        ·
         refine C rfl rfl ?_
         refine WS.nil' ⟨true, rfl, (M7.bare.take 0), fun _ => ?_, fun hh => ?_⟩
         · rw [i1, if_pos (by omega)]
         · cases hh
        ·
         refine C rfl rfl ?_
         refine WS.nil' ⟨false, rfl, (M7.bare.take 0), fun hh => ?_, fun _ => ?_⟩
         · cases hh
         · omega
      ·
       refine C rfl rfl (BQ rfl (BQ rfl (C rfl rfl (C rfl rfl (C rfl rfl (Y (.int .u64 ((n / 144115188075855872 : Nat) : Int)) rfl rfl (shr57 n) ?_))))))
       refine WS.gtrN (a := (n / 144115188075855872)) (b := 0) rfl rfl rfl (fun e26 => ?_) (fun e26 => ?_)
       ·
        refine C rfl rfl ?_
        refine WS.nil' ⟨true, rfl, (M7.bare.take 0), fun _ => ?_, fun hh => ?_⟩
        · rw [i1, if_pos (by omega)]
        · cases hh
       ·
        refine C rfl rfl ?_
        refine WS.nil' ⟨false, rfl, (M7.bare.take 0), fun hh => ?_, fun _ => ?_⟩
        · cases hh
        · omega
     ·intro h9 M10 hp27
      replace eL8 := eL8.symm; subst eL8
      refine WC.condT rfl (WC.exit ?_)
      refine F (J (C rfl rfl (C rfl rfl (C rfl rfl (G [(2, _), (3, _), (4, _)] rfl ?_)))))
      refine WC.ret (⟨[_, _, _], (res_tmp rfl (res_tmp rfl (res_tmp rfl res_nil))), ?_⟩)
      exact ⟨by rw [rvV_none hp27]; rfl, M10.bare.take 0⟩
     ·intro h11 M12 hp27
      replace eL8 := eL8.symm; subst eL8
      refine WC.condF rfl (WC.skip (F (J (C rfl rfl (Y (.int .u64 ((n * 128 : Nat) : Int)) rfl rfl (shl7 (by omega)) (C rfl rfl (Y (.int .u8 ((c.toNat % 128 : Nat) : Int)) rfl rfl (low_u8 c) (Y (.int .u64 (((c.toNat % 128) : Nat) : Int)) rfl rfl (cv_u64 (n := (c.toNat % 128)) (by omega)) (Y (.int .u64 ((n * 128 + c.toNat % 128 : Nat) : Int)) rfl rfl (or7 (by omega) (by omega)) (C rfl rfl (G [(0, _), (2, _), (3, _), (5, _)] rfl ?_)))))))))))
      refine F (J (C rfl rfl (Y (.int .i64 (((k + 1) : Nat) : Int)) rfl rfl (add_i64 (a := k) (b := 1) (by omega)) (C rfl rfl (G [(0, _), (2, _), (3, _), (5, _)] rfl ?_)))))
      refine F (J (C rfl rfl (Y (.int .u8 ((if c.toNat < 128 then 0 else 128 : Nat) : Int)) rfl rfl (more_u8 c) ?_)))
      refine WS.eqlN (a := (if c.toNat < 128 then 0 else 128)) (b := 0) rfl rfl rfl (fun e38 => ?_) (fun e38 => ?_)
      ·
       refine G [(0, _), (2, _), (3, _), (38, _)] rfl ?_
       refine WC.condT rfl (F (J (C rfl rfl (C rfl rfl (C rfl rfl (C rfl rfl (C rfl rfl (G [(2, _), (3, _), (4, _)] rfl ?_))))))))
       refine WC.ret (⟨[_, _, _], (res_tmp rfl (res_tmp rfl (res_tmp rfl res_nil))), ?_⟩)
       have hm := more_zero e38
       exact ⟨by rw [rvV_some (n := n * 128 + c.toNat % 128) (k := k + 1) (by rw [i1, if_neg (by omega), if_pos hm, Nat.mod_eq_of_lt hm])]; rfl, M12.bare.take 0⟩
      ·
       refine G [(0, _), (2, _), (3, _), (38, _)] rfl ?_
       refine WC.condF rfl (WC.skip (⟨(n * 128 + c.toNat % 128, k + 1), rfl, ⟨(M12.bare.take 0), ?_⟩, ?_⟩))
       · have hm := more_ne e38; exact ⟨by rw [i1, if_neg (by omega), if_neg (by omega), show c.toNat % 128 = c.toNat - 128 by omega], by omega, len_step hm hcl i3 hp27.1, by omega⟩
       · simp only []; omega
    ·
     refine C rfl rfl (G [(0, _), (2, _), (3, _), (13, _)] rfl ?_)
     refine WC.condF rfl (WC.exit ?_)
     refine F (J (C rfl rfl (C rfl rfl (C rfl rfl (G [(2, _), (3, _), (4, _)] rfl ?_)))))
     refine WC.ret (⟨[_, _, _], (res_tmp rfl (res_tmp rfl (res_tmp rfl res_nil))), ?_⟩)
     exact ⟨by rw [rvV_none (i1.trans (rv_ten (by omega) i3))]; rfl, M5.bare.take 0⟩
   ·
    refine C rfl rfl (BQ rfl (BQ rfl (C rfl rfl (G [(0, _), (2, _), (3, _), (13, _)] rfl ?_))))
    refine WC.condF rfl (WC.exit ?_)
    refine F (J (C rfl rfl (C rfl rfl (C rfl rfl (G [(2, _), (3, _), (4, _)] rfl ?_)))))
    refine WC.ret (⟨[_, _, _], (res_tmp rfl (res_tmp rfl (res_tmp rfl res_nil))), ?_⟩)
    exact ⟨by rw [rvV_none (by rw [i1, List.drop_of_length_le (by omega)]; rfl)]; rfl, M5.bare.take 0⟩
theorem low_u64 {n : Nat} (h : n < 18446744073709551616) : Value.int .u64 (IntKind.u64.wrap ((BitVec.ofInt IntKind.u64.bits (n : Int) &&& BitVec.ofInt IntKind.u64.bits 127).toNat : Nat)) = .int .u64 ((n % 128 : Nat) : Int) := by
  have := bv64 n 127 h (by omega)
  rw [and127] at this; rw [← this]; rfl
theorem or_all : ∀ a : Fin 128, a.val ||| 128 = 128 + a.val := by decide +kernel
theorem or128 {r : Nat} (h : r < 128) : Value.int .u8 (IntKind.u8.wrap ((BitVec.ofInt IntKind.u8.bits ((UInt8.ofNat r).toNat : Int) ||| BitVec.ofInt IntKind.u8.bits 128).toNat : Nat)) = .int .u8 ((UInt8.ofNat (128 + r)).toNat : Int) := by
  rw [toNat_ofNat (by omega), toNat_ofNat (by omega)]
  congr 1
  have e1 : ((r : Int) % ((2 ^ 8 : Nat) : Int)).toNat = r := by omega
  have key : (BitVec.ofInt 8 (r : Int) ||| BitVec.ofInt 8 128).toNat = r ||| 128 := by simp only [BitVec.toNat_or, BitVec.toNat_ofInt]; rw [e1]; rfl
  have h2 := or_all ⟨r, h⟩
  simp only at h2
  show IntKind.u8.wrap ((BitVec.ofInt 8 (r : Int) ||| BitVec.ofInt 8 128).toNat : Int) = _
  rw [key, h2, IntKind.wrap_u8]; omega
theorem op_iaA1 {e : Env} {h : H} {x y : Operand} {p n : Nat} {k : IntKind} (j : Nat) (hx : ev e x = some (.pointer (some ⟨p, 0, none⟩))) (hy : ev e y = some (.int k (j : Int))) (hj : j < n) : opE (.iaA n 1 x y) e h none = some (.pointer (some ⟨p, j, none⟩), h) := by
  simp only [opE, hx, hy]; rw [if_pos ⟨by omega, by omega⟩]; simp
def u8v (b : UInt8) : Value := .int .u8 ((b.toNat : Nat) : Int)
def arr (a : Nat) (t : List UInt8) : List Value := List.replicate a (.int .u8 0) ++ t.map u8v
theorem arr_len (a : Nat) (t : List UInt8) : (arr a t).length = a + t.length := by simp [arr]
theorem arr_set {a : Nat} {t : List UInt8} (c : UInt8) (h : 0 < a) : splice (arr a t) (a - 1) [u8v c] = arr (a - 1) (c :: t) := by
  obtain ⟨b, rfl⟩ : ∃ b, a = b + 1 := ⟨a - 1, by omega⟩
  simp only [splice, arr, Nat.add_sub_cancel, U]
  rw [List.take_append_of_le_length (by simp), List.drop_append_of_le_length (by simp), List.take_replicate, List.drop_replicate]
  simp
theorem src_arr {h : H} {p a n c : Nat} {t : List UInt8} (hb : h.get p = some ⟨arr a t, 0, false⟩) (hn : n = t.length) : KU8.Src h (.slice (some ⟨p, 0 + a * 1, none⟩) n c) t := by
  subst hn
  refine ⟨rfl, ?_⟩
  simp only [srcCells]
  rw [lds_at hb (by rw [arr_len]; show 0 + a * 1 + t.length * 1 ≤ a + t.length; omega)]
  rw [KU8_flat, Nat.zero_add, Nat.mul_one]
  simp only [arr]
  rw [List.drop_left' (by simp), List.take_of_length_le (by simp; show t.length ≤ t.length * 1; omega)]; rfl
theorem flatMap_take_succ {α β : Type} {l : List α} {i : Nat} {y : α} (f : α → List β) (h : l[i]? = some y) : (l.take (i + 1)).flatMap f = (l.take i).flatMap f ++ f y := by
  rw [List.take_add_one, h]; simp
theorem flatMap_take_all {α β : Type} {l : List α} {i : Nat} (f : α → List β) (h : l.length ≤ i) : (l.take i).flatMap f = l.flatMap f := by rw [List.take_of_length_le h]
theorem flatMap_take_le {α β : Type} (l : List α) (i : Nat) (f : α → List β) : ((l.take i).flatMap f).length ≤ (l.flatMap f).length := by
  conv => rhs; rw [← List.take_append_drop i l, List.flatMap_append, D]
  omega
theorem flatMap_vb_len : ∀ (ns : List Nat), (∀ n ∈ ns, n < 18446744073709551616) → (ns.flatMap vb).length ≤ 10 * ns.length := by
  intro ns
  induction ns with
  | nil => intro _; simp
  | cons n ns ih =>
    intro h
    have h1 := vb_len (h n (by simp))
    have h2 := ih fun m hm => h m (by simp [hm])
    simp only [List.flatMap_cons, D, X]; omega
theorem flatMap_sb_len : ∀ (ss : List (List UInt8)), (ss.map List.length).sum + 10 * ss.length ≤ 1099511627776 → (ss.flatMap sb).length ≤ (ss.map List.length).sum + 10 * ss.length := by
  intro ss
  induction ss with
  | nil => intro _; simp
  | cons t ss ih =>
    intro h
    simp only [List.flatMap_cons, D, X, List.map_cons, List.sum_cons] at h ⊢
    have h1 := sb_len (t := t) (by omega)
    have h2 := ih (by omega)
    omega
theorem mem_get {α : Type} {l : List α} {i : Nat} {y : α} (h : l[i]? = some y) : y ∈ l := List.mem_of_getElem? h
set_option maxRecDepth 4000 in
theorem num_V_ran {h : H} (W : Mem h h [] []) {V0 : Value} {ns : List Nat} (A : KNat.Sl h V0 ns) (hn : ∀ n ∈ ns, n < 18446744073709551616) (hl3 : ns.length ≤ 1000000) {r : List UInt8} (hr : ns.flatMap vb = r) : Cll tab0 35 [V0] h (fun v h2 => v = .string (bs r) ∧ Mem h h2 [] []) := by
  have hl := flatMap_vb_len ns hn
  refine Cll.code rfl rfl ?_
  refine WC.env [(0, _)] rfl ?_
  refine F (J (C rfl rfl (G [(0, _)] rfl ?_)))
  refine F (J (C rfl rfl (G [(0, _), (3, _)] rfl ?_)))
  refine F (F (J (C rfl rfl (C rfl (op_lenVS A rfl) (C rfl rfl (G [(3, _), (8, _), (9, _), (10, _)] rfl ?_))))))
  refine WC.block ?_
  obtain ⟨L1, eL3, M2⟩ := Mem.name1 ((W.bare).nils)
  refine WC.loop (σ := Value × Seg × Nat) (fun ((out, S, i)) => [(3, out), (8, V0), (9, (.int .i64 (((ns).length : Nat) : Int))), (10, (.int .i64 ((i : Nat) : Int)))]) (fun ((out, S, i)) hh => Mem h hh (S :: L1) [] ∧ KU8.Own out ((ns.take i).flatMap vb) S ∧ i ≤ ns.length) (fun ((out, S, i)) => ns.length - i) (.slice none 0 0, [], 0) rfl ⟨M2, ?_⟩ ?_
  · exact ⟨.nil, by omega⟩
  ·rintro ⟨out, S, i⟩ h4 ⟨M5, ⟨hO, hi1⟩⟩
   replace eL3 := eL3.symm; subst eL3
   refine WC.env [(3, _), (8, _), (9, _), (10, _)] rfl ?_
   refine F (J (WS.lssN (a := i) (b := (ns).length) rfl rfl rfl (fun e11 => ?_) (fun e11 => ?_)))
   ·
    refine G [(3, _), (8, _), (9, _), (10, _), (11, _)] rfl ?_
    refine F (WC.condT rfl (WC.skip (F (WC.block (F (J ?_))))))
    obtain ⟨x, hy⟩ : ∃ x, ns[i]? = some x := ⟨_, List.getElem?_eq_getElem (show i < ns.length by omega)⟩
    have hx64 := hn x (mem_get hy)
    have hfs := flatMap_take_succ vb hy
    have hfl := flatMap_take_le ns (i + 1) vb
    have hvl := vb_len hx64
    refine WS.iaVS A i hy rfl rfl rfl rfl ?_
    intro bx ox hx
    refine C rfl (op_ldH rfl (At.ld0 (hx.mono M5.sub) rfl)) (C rfl rfl (G [(3, _), (5, _), (8, _), (9, _), (10, _)] rfl ?_))
    refine F (J (WS.new M5 rfl ?_))
    intro p6 h7 M8
    refine G [(3, _), (5, _), (6, _), (8, _), (9, _), (10, _)] rfl ?_
    refine F (J (C rfl rfl (G [(3, _), (5, _), (6, _), (7, _), (8, _), (9, _), (10, _)] rfl ?_)))
    refine F (J (C rfl rfl (C rfl rfl (Y (.int .u64 ((x % 128 : Nat) : Int)) rfl rfl (low_u64 hx64) (Y (.int .u8 ((UInt8.ofNat (x % 128)).toNat : Int)) rfl rfl u8_ofNat (C rfl rfl ?_))))))
    refine WS.st1 (M8.focus 0 rfl) [_] [_, _, _, _, _, _, _, _, _, _] rfl rfl rfl rfl rfl (Nat.le_of_ble_eq_true rfl) (Nat.le_of_ble_eq_true rfl) rfl rfl ?_
    intro h9 M10
    replace M10 : Mem _ _ ([(p6, _)] :: S :: []) _ := M10
    refine G [(3, _), (5, _), (6, _), (7, _), (8, _), (9, _), (10, _)] rfl ?_
    refine F (F (J (C rfl rfl (Y (.int .u64 ((x / 128 : Nat) : Int)) rfl rfl (shr7 x) (C rfl rfl (G [(3, _), (5, _), (6, _), (7, _), (8, _), (9, _), (10, _)] rfl ?_))))))
    refine WC.block ?_
    obtain ⟨L11, eL13, M12⟩ := Mem.name1 (M10.bare.focus 0 rfl)
    refine WC.loop (σ := Nat × Nat × List UInt8) (fun ((n, a, t)) => [(3, out), (5, (.int .u64 ((n : Nat) : Int))), (6, (.pointer (some ⟨p6, 0, none⟩))), (7, (.int .i64 ((a : Nat) : Int))), (8, V0), (9, (.int .i64 (((ns).length : Nat) : Int))), (10, (.int .i64 ((i : Nat) : Int)))]) (fun ((n, a, t)) hh => Mem h hh ([(p6, ⟨arr a t, 0, false⟩)] :: L11) [] ∧ vb x = hi n ++ t ∧ a + t.length = 10 ∧ (hi n).length ≤ a ∧ n < 18446744073709551616) (fun ((n, a, t)) => n) (x / 128, 9, [UInt8.ofNat (x % 128)]) rfl ⟨(by exact M12), ?_⟩ ?_
    · exact ⟨rfl, by simp, hi_length (k := 9) (by omega), by omega⟩
    ·rintro ⟨n, a, t⟩ h14 ⟨M15, ⟨he, ht, hh, hn64⟩⟩
     replace eL13 := eL13.symm; subst eL13
     refine WC.env [(3, _), (5, _), (6, _), (7, _), (8, _), (9, _), (10, _)] rfl ?_
     refine F (F (J (C rfl rfl ?_)))
     refine WS.gtrN (a := n) (b := 0) rfl rfl rfl (fun e22 => ?_) (fun e22 => ?_)
     ·
      refine G [(3, _), (5, _), (6, _), (7, _), (8, _), (9, _), (10, _), (22, _)] rfl ?_
      refine WC.condT rfl (WC.skip (F (WC.block (F (J ?_)))))
      have hpos : 1 ≤ a := by rw [hi_pos (by omega)] at hh; simp at hh; omega
      refine C rfl rfl (Y (.int .i64 (((a - 1) : Nat) : Int)) rfl rfl (sub_i64 (a := a) (b := 1) (by omega)) (C rfl rfl (G [(3, _), (5, _), (6, _), (7, _), (8, _), (9, _), (10, _)] rfl ?_)))
      refine J (C rfl rfl (C rfl rfl (Y (.int .u64 ((n % 128 : Nat) : Int)) rfl rfl (low_u64 (by omega)) (Y (.int .u8 ((UInt8.ofNat (n % 128)).toNat : Int)) rfl rfl u8_ofNat (Y (.int .u8 ((UInt8.ofNat (128 + n % 128)).toNat : Int)) rfl rfl (or128 (by omega)) (C rfl (op_iaA1 (a - 1) rfl rfl (by omega)) ?_))))))
      refine WS.st1 (M15.focus 0 rfl) [_] (arr (a - 1) (UInt8.ofNat (128 + n % 128) :: t)) rfl rfl rfl rfl rfl (Nat.le_of_ble_eq_true rfl) (by simp only [arr_len, U]; omega) rfl (by rw [← arr_set _ (by omega)]; rfl) ?_
      intro h16 M17
      refine G [(3, _), (5, _), (6, _), (7, _), (8, _), (9, _), (10, _)] rfl ?_
      refine J (C rfl rfl (Y (.int .u64 ((n / 128 : Nat) : Int)) rfl rfl (shr7 n) (C rfl rfl (G [(3, _), (5, _), (6, _), (7, _), (8, _), (9, _), (10, _)] rfl ?_))))
      refine ⟨(n / 128, a - 1, UInt8.ofNat (128 + n % 128) :: t), rfl, ⟨(((M17.bare.focus 1 rfl).focus 1 rfl).take 2), ?_⟩, ?_⟩
      · exact ⟨by rw [he, hi_pos (by omega)]; simp, by simp; omega, by rw [hi_pos (by omega)] at hh; simp at hh; omega, by omega⟩
      · simp only []; omega
     ·
      refine G [(3, _), (5, _), (6, _), (7, _), (8, _), (9, _), (10, _), (22, _)] rfl ?_
      refine WC.condF rfl (WC.exit ?_)
      refine J ?_
      have hnil : n = 0 := by omega
      have htl : t.length = (vb x).length := by rw [he, hnil, hi_zero]; rfl
      have hfs2 := congrArg List.length hfs
      rw [D] at hfs2
      refine C rfl rfl (C rfl rfl (C rfl (op_slA0 a rfl rfl (by omega)) ?_))
      refine WS.app (l := (ns.take i).flatMap vb) (m := t) (hO) (M15.focus 1 rfl) (src_arr (M15.at 0 rfl) (by omega)) rfl (by omega) (by omega) rfl rfl rfl ?_
      intro V18 S19 h20 O21 M22
      replace O21 : Row.Own KU8 V18 ((ns.take (i + 1)).flatMap vb) S19 := by rw [hfs, he, hnil, hi_zero]; exact O21
      obtain ⟨P23, rfl⟩ := Row.Own.shape O21
      refine C rfl rfl (G [(3, _), (8, _), (9, _), (10, _)] rfl ?_)
      refine J (Y (.int .i64 (((i + 1) : Nat) : Int)) rfl rfl (add_i64 (a := i) (b := 1) (by omega)) (C rfl rfl (G [(3, _), (8, _), (9, _), (10, _)] rfl ?_)))
      refine ⟨((.slice P23 ((ns.take (i + 1)).flatMap vb).length (2 * ((ns.take (i + 1)).flatMap vb).length)), S19, i + 1), rfl, ⟨((M22.bare.focus 0 rfl).take 1), ?_⟩, ?_⟩
      · exact ⟨by assumption, by omega⟩
      · simp only [] at *; omega
   ·
    refine G [(3, _), (8, _), (9, _), (10, _), (11, _)] rfl ?_
    refine F (WC.condF rfl (WC.exit ?_))
    refine F (J (C rfl rfl (C rfl (op_cvBO hO (Mem.owni M5 0 rfl) rfl) (C rfl rfl (G [(2, _)] rfl ?_)))))
    refine WC.ret (⟨[_], (res_tmp rfl res_nil), ?_⟩)
    exact ⟨by rw [← hr, ← flatMap_take_all (l := ns) (i := i) vb (by omega)]; rfl, M5.bare.take 0⟩
theorem flatMap_part {α β : Type} {l : List α} {i : Nat} {y : α} (f : α → List β) (h : l[i]? = some y) : ((l.take i).flatMap f).length + (f y).length ≤ (l.flatMap f).length := by
  have := flatMap_take_le l (i + 1) f
  rw [flatMap_take_succ f h, D] at this; exact this
set_option maxRecDepth 4000 in
theorem num_S_ran {h : H} (W : Mem h h [] []) {V0 : Value} {ss : List (List UInt8)} (A : KStr.Sl h V0 ss) (hl3 : (ss.map List.length).sum + 10 * ss.length ≤ 1099511627776) {r : List UInt8} (hr : ss.flatMap sb = r) : Cll tab0 38 [V0] h (fun v h2 => v = .string (bs r) ∧ Mem h h2 [] []) := by
  have hl := flatMap_sb_len ss hl3
  refine Cll.code rfl rfl ?_
  refine WC.env [(0, _)] rfl ?_
  refine F (J (C rfl rfl (G [(0, _)] rfl ?_)))
  refine F (J (C rfl rfl (G [(0, _), (3, _)] rfl ?_)))
  refine F (F (J (C rfl rfl (C rfl (op_lenVS A rfl) (C rfl rfl (G [(3, _), (6, _), (7, _), (8, _)] rfl ?_))))))
  refine WC.block ?_
  obtain ⟨L1, eL3, M2⟩ := Mem.name W.bare
  refine WC.loop (σ := List UInt8 × Nat) (fun ((out, i)) => [(3, (.string (bs out))), (6, V0), (7, (.int .i64 (((ss).length : Nat) : Int))), (8, (.int .i64 ((i : Nat) : Int)))]) (fun ((out, i)) hh => Mem h hh (L1) [] ∧ out = (ss.take i).flatMap sb ∧ i ≤ ss.length) (fun ((out, i)) => ss.length - i) ([], 0) rfl ⟨M2, ?_⟩ ?_
  · exact ⟨rfl, by omega⟩
  ·rintro ⟨out, i⟩ h4 ⟨M5, ⟨hO, hi1⟩⟩
   replace eL3 := eL3.symm; subst eL3
   refine WC.env [(3, _), (6, _), (7, _), (8, _)] rfl ?_
   refine F (J (WS.lssN (a := i) (b := (ss).length) rfl rfl rfl (fun e9 => ?_) (fun e9 => ?_)))
   ·
    refine G [(3, _), (6, _), (7, _), (8, _), (9, _)] rfl ?_
    refine F (WC.condT rfl (WC.skip (F (WC.block (F (J ?_))))))
    obtain ⟨x, hy⟩ : ∃ x, ss[i]? = some x := ⟨_, List.getElem?_eq_getElem (show i < ss.length by omega)⟩
    have hfp := flatMap_part sb hy
    have hsl : (sb x).length = (vb x.length).length + x.length := by simp [sb]
    refine WS.iaVS A i hy rfl rfl rfl rfl ?_
    intro bx ox hx
    refine C rfl (op_ldH rfl (At.ld0 (hx.mono M5.sub) rfl)) (C rfl rfl (G [(3, _), (5, _), (6, _), (7, _), (8, _)] rfl ?_))
    refine J (C rfl rfl (C rfl rfl (C rfl (op_lenS (l := x) rfl) (Y (.int .u64 (((x).length : Nat) : Int)) rfl rfl (cv_u64 (n := (x).length) (by omega)) ?_))))
    refine WS.bsl M5 [_] rfl rfl rfl rfl ?_
    intro p6 h7 M8
    refine WS.call rfl rfl rfl (num_V_ran M8.here (Row.Sl.own (K := KNat) (l := [(x).length]) (M8.at 0 rfl)) (by intro n hn; simp only [List.mem_cons, List.mem_nil_iff, or_false] at hn; omega) (by simp) (r := (vb ((x).length))) (by simp [List.flatMap])) ?_
    rintro _ h9 ⟨rfl, N10⟩
    have M11 := M8.trans N10
    refine C rfl rfl (C rfl (op_sadd (l := (vb ((x).length))) (m := x) rfl rfl (by have := congrArg List.length hO; (try simp only [D]); omega)) (C rfl (op_sadd (l := out) (m := ((vb ((x).length)) ++ x)) rfl rfl (by have := congrArg List.length hO; (try simp only [D]); omega)) (C rfl rfl (G [(3, _), (6, _), (7, _), (8, _)] rfl ?_))))
    refine J (Y (.int .i64 (((i + 1) : Nat) : Int)) rfl rfl (add_i64 (a := i) (b := 1) (by omega)) (C rfl rfl (G [(3, _), (6, _), (7, _), (8, _)] rfl ?_)))
    refine ⟨(out ++ (vb x.length ++ x), i + 1), rfl, ⟨(M11.bare.take 0), ?_⟩, ?_⟩
    · exact ⟨by rw [hO, flatMap_take_succ sb hy]; rfl, by omega⟩
    · simp only [] at *; omega
   ·
    refine G [(3, _), (6, _), (7, _), (8, _), (9, _)] rfl ?_
    refine F (WC.condF rfl (WC.exit ?_))
    refine F (J (C rfl rfl (C rfl rfl (G [(2, _)] rfl ?_))))
    refine WC.ret (⟨[_], (res_tmp rfl res_nil), ?_⟩)
    exact ⟨by rw [← hr, hO, flatMap_take_all (l := ss) (i := i) sb (by omega)]; rfl, M5.bare.take 0⟩
def rsV (l : List UInt8) : Value := .tuple #[.string (bs (rsT l)), .int .i64 (rsK l : Int), .bool (rsOK l)]
theorem rsV_none {l : List UInt8} (h : getS l = none) : rsV l = .tuple #[.string (bs []), .int .i64 0, .bool false] := by
  obtain ⟨e1, e2, e3⟩ := rs_eq_none h; simp only [rsV, e1, e2, e3]; rfl
theorem rsV_some {l t : List UInt8} {k : Nat} (h : getS l = some (t, k)) : rsV l = .tuple #[.string (bs t), .int .i64 (k : Int), .bool true] := by
  obtain ⟨e1, e2, e3⟩ := rs_eq_some h; simp only [rsV, e1, e2, e3]
theorem getS_no {l : List UInt8} (h : rvOK l = false) : getS l = none := by
  unfold getS; rw [numG_eq, h]; rfl
theorem getS_far {l : List UInt8} (h : l.length - rvK l < rvN l) : getS l = none := by
  unfold getS; rw [numG_eq]; cases rvOK l
  · rfl
  · simp only [if_true]; rw [if_neg (by omega)]
theorem getS_yes {l : List UInt8} (h : rvOK l = true) (h2 : rvN l ≤ l.length - rvK l) : getS l = some ((l.take (rvK l + rvN l)).drop (rvK l), rvK l + rvN l) := by
  unfold getS; rw [numG_eq, h]; simp only [if_true]; rw [if_pos h2, List.drop_take, Nat.add_sub_cancel_left]
theorem num_ReadS_ran {h : H} (W : Mem h h [] []) {l : List UInt8} (hl : l.length < 9223372036854775808) : Cll tab0 51 [.string (bs l)] h (fun v h2 => v = rsV l ∧ Mem h h2 [] []) := by
  have hk := rvK_le l
  have hn64 := rvN_lt l
  refine Cll.code rfl rfl ?_
  refine WC.env [(0, _)] rfl ?_
  refine F (J (C rfl rfl (C rfl rfl (C rfl rfl (G [(0, _)] rfl ?_)))))
  refine F (J (C rfl rfl ?_))
  refine WS.call rfl rfl rfl (num_ReadV_ran W.here (l := l) (by first | omega | (simp only [AQ, AX, D, X, AZ, U]; omega) | (simp only [AQ, AX, D, X, AZ, U] at *; omega))) ?_
  rintro _ h1 ⟨rfl, N2⟩
  have M3 := W.trans N2
  refine C rfl rfl (C rfl rfl (C rfl rfl (C rfl rfl (C rfl rfl (C rfl rfl (C rfl rfl (G [(0, _), (4, _), (5, _), (6, _)] rfl ?_)))))))
  refine F (F (J (C rfl rfl ?_)))
  cases hb1 : (rvOK l)
  ·
   refine Y (.bool true) rfl rfl rfl (C rfl rfl (BQ rfl (BQ rfl (BQ rfl (BQ rfl (BQ rfl (BQ rfl (BQ rfl (C rfl rfl ?_)))))))))
   refine G [(0, _), (5, _), (6, _), (23, _)] rfl ?_
   refine WC.condT rfl (F (J (C rfl rfl (C rfl rfl (C rfl rfl (G [(2, _), (3, _), (4, _)] rfl ?_))))))
   refine WC.ret (⟨[_, _, _], (res_tmp rfl (res_tmp rfl (res_tmp rfl res_nil))), ?_⟩)
   exact ⟨by rw [rsV_none (getS_no hb1)]; rfl, M3.bare.take 0⟩
  ·
   refine Y (.bool false) rfl rfl rfl (C rfl rfl (C rfl rfl (C rfl rfl (C rfl (op_lenS (l := l) rfl) (C rfl rfl (Y (.int .i64 ((((l).length - (rvK l)) : Nat) : Int)) rfl rfl (sub_i64 (a := (l).length) (b := (rvK l)) (by have := rvK_le l; omega)) (Y (.int .u64 ((((l).length - (rvK l)) : Nat) : Int)) rfl rfl (cv_u64 (n := ((l).length - (rvK l))) (by omega)) ?_)))))))
   refine WS.gtrN (a := (rvN l)) (b := ((l).length - (rvK l))) rfl rfl rfl (fun e22 => ?_) (fun e22 => ?_)
   ·
    refine C rfl rfl (G [(0, _), (5, _), (6, _), (23, _)] rfl ?_)
    refine WC.condT rfl (F (J (C rfl rfl (C rfl rfl (C rfl rfl (G [(2, _), (3, _), (4, _)] rfl ?_))))))
    refine WC.ret (⟨[_, _, _], (res_tmp rfl (res_tmp rfl (res_tmp rfl res_nil))), ?_⟩)
    exact ⟨by rw [rsV_none (getS_far (by omega))]; rfl, M3.bare.take 0⟩
   ·
    refine C rfl rfl (G [(0, _), (5, _), (6, _), (23, _)] rfl ?_)
    refine WC.condF rfl (WC.skip (F (J (C rfl rfl (C rfl rfl (C rfl rfl (C rfl rfl (Y (.int .i64 (((rvN l) : Nat) : Int)) rfl rfl (cv_i64 (n := (rvN l)) (by have := rvN_lt l; omega)) (Y (.int .i64 ((((rvK l) + (rvN l)) : Nat) : Int)) rfl rfl (add_i64 (a := (rvK l)) (b := (rvN l)) (by have := rvK_le l; have := rvN_lt l; omega)) (C rfl (op_slS2 (l := l) (rvK l) ((rvK l) + (rvN l)) rfl rfl rfl (by first | omega | (simp only [AQ, AX, D, X, AZ, U]; omega) | (simp only [AQ, AX, D, X, AZ, U] at *; omega)) (by first | omega | (simp only [AQ, AX, D, X, AZ, U]; omega) | (simp only [AQ, AX, D, X, AZ, U] at *; omega))) (C rfl rfl (C rfl rfl (Y (.int .i64 (((rvN l) : Nat) : Int)) rfl rfl (cv_i64 (n := (rvN l)) (by have := rvN_lt l; omega)) ?_)))))))))))))
    refine Y (.int .i64 ((((rvK l) + (rvN l)) : Nat) : Int)) rfl rfl (add_i64 (a := (rvK l)) (b := (rvN l)) (by have := rvK_le l; have := rvN_lt l; omega)) (C rfl rfl (C rfl rfl (C rfl rfl (G [(2, _), (3, _), (4, _)] rfl ?_))))
    refine WC.ret (⟨[_, _, _], (res_tmp rfl (res_tmp rfl (res_tmp rfl res_nil))), ?_⟩)
    exact ⟨by rw [rsV_some (getS_yes hb1 (by omega))]; rfl, M3.bare.take 0⟩
theorem one_eq {n m : Nat} {t : List UInt8} (h : (m ≤ 127 ∧ t = vb n) ∨ vb n = hi (m / 128) ++ t) (hm : 127 < m) : vb n = hi (m / 128) ++ t := by
  rcases h with h | h
  · omega
  · exact h
theorem one_end {n m : Nat} {t : List UInt8} (h : (m ≤ 127 ∧ t = vb n) ∨ vb n = hi (m / 128) ++ t) (hm : m ≤ 127) : vb n = t := by
  rcases h with h | h
  · exact h.2.symm
  · rw [show m / 128 = 0 by omega, hi_zero] at h; exact h
theorem step_one {n m : Nat} {t : List UInt8} (h : (m ≤ 127 ∧ t = vb n) ∨ vb n = hi (m / 128) ++ t) (hm : 127 < m) : (m / 128 ≤ 127 ∧ UInt8.ofNat (128 + m / 128 % 128) :: t = vb n) ∨ vb n = hi (m / 128 / 128) ++ UInt8.ofNat (128 + m / 128 % 128) :: t := by
  right
  rw [one_eq h hm, hi_pos (n := m / 128) (by omega)]; simp
theorem ref_One_ran {h : H} (W : Mem h h [] []) {n : Nat} (hn : n < 18446744073709551616) : Cll tab0 61 [.int .u64 (n : Int)] h (fun v h2 => v = .string (bs (vb n)) ∧ Mem h h2 [] []) := by
  have hv := vb_len hn
  refine Cll.code rfl rfl ?_
  refine WC.env [(0, _)] rfl ?_
  refine F (J (C rfl rfl (G [(0, _)] rfl ?_)))
  refine F (J (C rfl rfl (Y (.int .u64 (((n % 128) : Nat) : Int)) rfl rfl (rem_k (a := n) (b := 128)) (Y (.int .u8 (((UInt8.ofNat (n % 128)).toNat : Nat) : Int)) rfl rfl (u8_ofNat (n := (n % 128))) ?_))))
  refine WS.bsl W [_] rfl rfl rfl rfl ?_
  intro p1 h2 M3
  refine C rfl (op_cvB (l := [UInt8.ofNat (n % 128)]) (M3.at 0 rfl) rfl rfl (Nat.le_of_ble_eq_true rfl) rfl) (C rfl rfl (G [(0, _), (3, _)] rfl ?_))
  refine F (WC.block ?_)
  obtain ⟨L4, eL6, M5⟩ := Mem.name M3.bare
  refine WC.loop (σ := Nat × List UInt8) (fun ((m, t)) => [(0, (.int .u64 ((m : Nat) : Int))), (3, (.string (bs t)))]) (fun ((m, t)) hh => Mem h hh (L4) [] ∧ ((m ≤ 127 ∧ t = vb n) ∨ vb n = hi (m / 128) ++ t) ∧ m < 18446744073709551616 ∧ t.length ≤ 10) (fun ((m, t)) => m) (n, [UInt8.ofNat (n % 128)]) rfl ⟨M5, ?_⟩ ?_
  · exact ⟨.inr rfl, hn, by simp⟩
  ·rintro ⟨m, t⟩ h7 ⟨M8, ⟨hO, hm, ht⟩⟩
   replace eL6 := eL6.symm; subst eL6
   refine WC.env [(0, _), (3, _)] rfl ?_
   refine F (F (J (C rfl rfl ?_)))
   refine WS.gtrN (a := m) (b := 127) rfl rfl rfl (fun e10 => ?_) (fun e10 => ?_)
   ·
    refine G [(0, _), (3, _), (10, _)] rfl ?_
    refine WC.condT rfl (WC.skip (WC.block (F (J (C rfl rfl (Y (.int .u64 (((m / 128) : Nat) : Int)) rfl rfl (quo_u64 (a := m) (b := 128) (by omega)) (C rfl rfl (G [(0, _), (3, _)] rfl ?_))))))))
    refine J (C rfl rfl (Y (.int .u64 ((((m / 128) % 128) : Nat) : Int)) rfl rfl (rem_k (a := (m / 128)) (b := 128)) (Y (.int .u64 (((128 + ((m / 128) % 128)) : Nat) : Int)) rfl rfl (add_u64 (a := 128) (b := ((m / 128) % 128)) (by omega)) (Y (.int .u8 (((UInt8.ofNat (128 + ((m / 128) % 128))).toNat : Nat) : Int)) rfl rfl (u8_ofNat (n := (128 + ((m / 128) % 128)))) ?_))))
    refine WS.bsl M8 [_] rfl rfl rfl rfl ?_
    intro p9 h10 M11
    refine C rfl (op_cvB (l := [UInt8.ofNat (128 + ((m / 128) % 128))]) (M11.at 0 rfl) rfl rfl (Nat.le_of_ble_eq_true rfl) rfl) (C rfl rfl (C rfl (op_sadd (l := [UInt8.ofNat (128 + ((m / 128) % 128))]) (m := t) rfl rfl (by first | omega | (simp only [AQ, AX, D, X, AZ, U]; omega) | (simp only [AQ, AX, D, X, AZ, U] at *; omega))) (C rfl rfl (G [(0, _), (3, _)] rfl ?_))))
    refine ⟨(m / 128, UInt8.ofNat (128 + m / 128 % 128) :: t), rfl, ⟨((M11.bare.focus 1 rfl).take 1), ?_⟩, ?_⟩
    · exact ⟨step_one hO (by omega), by omega, by have h2 := congrArg List.length (one_eq hO (by omega)); rw [hi_pos (by omega)] at h2; simp at h2; simp; omega⟩
    · simp only []; omega
   ·
    refine G [(0, _), (3, _), (10, _)] rfl ?_
    refine WC.condF rfl (WC.exit ?_)
    refine F (J (C rfl rfl (C rfl rfl (G [(2, _)] rfl ?_))))
    refine WC.ret (⟨[_], (res_tmp rfl res_nil), ?_⟩)
    exact ⟨by rw [one_end hO (by omega)]; rfl, M8.bare.take 0⟩
theorem ref_V_ran {h : H} (W : Mem h h [] []) {V0 : Value} {ns : List Nat} (A : KNat.Sl h V0 ns) (hn : ∀ n ∈ ns, n < 18446744073709551616) (hl3 : ns.length ≤ 1000000) {r : List UInt8} (hr : ns.flatMap vb = r) : Cll tab0 46 [V0] h (fun v h2 => v = .string (bs r) ∧ Mem h h2 [] []) := by
  have hl := flatMap_vb_len ns hn
  refine Cll.code rfl rfl ?_
  refine WC.env [(0, _)] rfl ?_
  refine F (J (C rfl rfl (G [(0, _)] rfl ?_)))
  refine F (J (C rfl rfl (G [(0, _), (3, _)] rfl ?_)))
  refine F (F (J (C rfl rfl (G [(0, _), (3, _), (4, _)] rfl ?_))))
  refine WC.block ?_
  obtain ⟨L1, eL3, M2⟩ := Mem.name W.bare
  refine WC.loop (σ := List UInt8 × Nat) (fun ((out, i)) => [(0, V0), (3, (.string (bs out))), (4, (.int .i64 ((i : Nat) : Int)))]) (fun ((out, i)) hh => Mem h hh (L1) [] ∧ out = (ns.take i).flatMap vb ∧ i ≤ ns.length) (fun ((out, i)) => ns.length - i) ([], 0) rfl ⟨M2, ?_⟩ ?_
  · exact ⟨rfl, by omega⟩
  ·rintro ⟨out, i⟩ h4 ⟨M5, ⟨hO, hi1⟩⟩
   replace eL3 := eL3.symm; subst eL3
   refine WC.env [(0, _), (3, _), (4, _)] rfl ?_
   refine F (F (J (C rfl rfl (C rfl rfl (C rfl (op_lenVS A rfl) ?_)))))
   refine WS.lssN (a := i) (b := (ns).length) rfl rfl rfl (fun e8 => ?_) (fun e8 => ?_)
   ·
    refine G [(0, _), (3, _), (4, _), (8, _)] rfl ?_
    refine WC.condT rfl (WC.skip (F (WC.block (J (C rfl rfl (C rfl rfl (C rfl rfl ?_)))))))
    obtain ⟨x, hy⟩ : ∃ x, ns[i]? = some x := ⟨_, List.getElem?_eq_getElem (show i < ns.length by omega)⟩
    have hfp := flatMap_part vb hy
    have hx64 := hn x (mem_get hy)
    refine WS.iaVS A i hy rfl rfl rfl rfl ?_
    intro bx ox hx
    refine C rfl (op_ldH rfl (At.ld0 (hx.mono M5.sub) rfl)) ?_
    refine WS.call rfl rfl rfl (ref_One_ran M5.here (n := x) (by omega)) ?_
    rintro _ h6 ⟨rfl, N7⟩
    have M8 := M5.trans N7
    refine C rfl (op_sadd (l := out) (m := (vb x)) rfl rfl (by have := congrArg List.length hO; omega)) (C rfl rfl (G [(0, _), (3, _), (4, _)] rfl ?_))
    refine J (C rfl rfl (Y (.int .i64 (((i + 1) : Nat) : Int)) rfl rfl (add_i64 (a := i) (b := 1) (by omega)) (C rfl rfl (G [(0, _), (3, _), (4, _)] rfl ?_))))
    refine ⟨(out ++ vb x, i + 1), rfl, ⟨(M8.bare.take 0), ?_⟩, ?_⟩
    · exact ⟨by rw [hO, flatMap_take_succ vb hy], by omega⟩
    · simp only [] at *; omega
   ·
    refine G [(0, _), (3, _), (4, _), (8, _)] rfl ?_
    refine WC.condF rfl (WC.exit ?_)
    refine F (J (C rfl rfl (C rfl rfl (G [(2, _)] rfl ?_))))
    refine WC.ret (⟨[_], (res_tmp rfl res_nil), ?_⟩)
    exact ⟨by rw [← hr, hO, flatMap_take_all (l := ns) (i := i) vb (by omega)]; rfl, M5.bare.take 0⟩
theorem ref_S_ran {h : H} (W : Mem h h [] []) {V0 : Value} {ss : List (List UInt8)} (A : KStr.Sl h V0 ss) (hl3 : (ss.map List.length).sum + 10 * ss.length ≤ 1099511627776) {r : List UInt8} (hr : ss.flatMap sb = r) : Cll tab0 47 [V0] h (fun v h2 => v = .string (bs r) ∧ Mem h h2 [] []) := by
  have hl := flatMap_sb_len ss hl3
  refine Cll.code rfl rfl ?_
  refine WC.env [(0, _)] rfl ?_
  refine F (J (C rfl rfl (G [(0, _)] rfl ?_)))
  refine F (J (C rfl rfl (G [(0, _), (3, _)] rfl ?_)))
  refine F (F (J (C rfl rfl (G [(0, _), (3, _), (4, _)] rfl ?_))))
  refine WC.block ?_
  obtain ⟨L1, eL3, M2⟩ := Mem.name W.bare
  refine WC.loop (σ := List UInt8 × Nat) (fun ((out, i)) => [(0, V0), (3, (.string (bs out))), (4, (.int .i64 ((i : Nat) : Int)))]) (fun ((out, i)) hh => Mem h hh (L1) [] ∧ out = (ss.take i).flatMap sb ∧ i ≤ ss.length) (fun ((out, i)) => ss.length - i) ([], 0) rfl ⟨M2, ?_⟩ ?_
  · exact ⟨rfl, by omega⟩
  ·rintro ⟨out, i⟩ h4 ⟨M5, ⟨hO, hi1⟩⟩
   replace eL3 := eL3.symm; subst eL3
   refine WC.env [(0, _), (3, _), (4, _)] rfl ?_
   refine F (F (J (C rfl rfl (C rfl rfl (C rfl (op_lenVS A rfl) ?_)))))
   refine WS.lssN (a := i) (b := (ss).length) rfl rfl rfl (fun e8 => ?_) (fun e8 => ?_)
   ·
    refine G [(0, _), (3, _), (4, _), (8, _)] rfl ?_
    refine WC.condT rfl (WC.skip (F (WC.block (WC.draw M5 [] rfl ?_))))
    intro rb6 h7 M8
    refine C rfl rfl (C rfl rfl (C rfl rfl ?_))
    obtain ⟨x, hy⟩ : ∃ x, ss[i]? = some x := ⟨_, List.getElem?_eq_getElem (show i < ss.length by omega)⟩
    have hfp := flatMap_part sb hy
    have hsl : (sb x).length = (vb x.length).length + x.length := by simp [sb]
    refine WS.iaVS A i hy rfl rfl rfl rfl ?_
    intro bx ox hx
    refine C rfl (op_ldH rfl (At.ld0 (hx.mono M8.sub) rfl)) (C rfl (op_lenS (l := x) rfl) (Y (.int .u64 (((x).length : Nat) : Int)) rfl rfl (cv_u64 (n := (x).length) (by omega)) (C rfl rfl (C rfl rfl ?_))))
    refine WS.iaVS A i hy rfl rfl rfl rfl ?_
    intro bx2 ox2 hx2
    refine C rfl (op_ldH rfl (At.ld0 (hx2.mono M8.sub) rfl)) ?_
    refine WS.call rfl rfl rfl (ref_One_ran M8.here (n := ((x).length)) (by omega)) ?_
    rintro _ h9 ⟨rfl, N10⟩
    have M11 := M8.trans N10
    refine WS.chk rfl (op_ldH rfl (At.ld0 (hx2.mono M11.sub) rfl)) rfl (sameV_refl rfl) (C rfl (op_sadd (l := out) (m := (vb ((x).length))) rfl rfl (by have := congrArg List.length hO; (try simp only [D]); omega)) (C rfl (op_sadd (l := (out ++ (vb ((x).length)))) (m := x) rfl rfl (by have := congrArg List.length hO; (try simp only [D]); omega)) (C rfl rfl (G [(0, _), (3, _), (4, _)] rfl ?_))))
    refine J (C rfl rfl (Y (.int .i64 (((i + 1) : Nat) : Int)) rfl rfl (add_i64 (a := i) (b := 1) (by omega)) (C rfl rfl (G [(0, _), (3, _), (4, _)] rfl ?_))))
    refine ⟨((out ++ vb x.length) ++ x, i + 1), rfl, ⟨(M11.bare.bare.take 0), ?_⟩, ?_⟩
    · exact ⟨by rw [hO, flatMap_take_succ sb hy, List.append_assoc]; rfl, by omega⟩
    · simp only [] at *; omega
   ·
    refine G [(0, _), (3, _), (4, _), (8, _)] rfl ?_
    refine WC.condF rfl (WC.exit ?_)
    refine F (J (C rfl rfl (C rfl rfl (G [(2, _)] rfl ?_))))
    refine WC.ret (⟨[_], (res_tmp rfl res_nil), ?_⟩)
    exact ⟨by rw [← hr, hO, flatMap_take_all (l := ss) (i := i) sb (by omega)]; rfl, M5.bare.take 0⟩
def val (t : List UInt8) : Nat := t.foldl (fun n c => 128 * n + c.toNat % 128) 0
theorem val_snoc (t : List UInt8) (c : UInt8) : val (t ++ [c]) = 128 * val t + c.toNat % 128 := by simp [val]
theorem hi_ge : ∀ (n : Nat), ∀ c ∈ hi n, 128 ≤ c.toNat := by
  intro n
  induction n using Nat.strongRecOn with
  | _ n ih =>
    intro c hc
    by_cases h : n = 0
    · subst h; rw [hi_zero] at hc; simp at hc
    · rw [hi_pos h, List.mem_append, List.mem_singleton] at hc
      rcases hc with hc | hc
      · exact ih _ (by omega) c hc
      · subst hc; rw [toNat_ofNat (by omega)]; omega
theorem val_hi : ∀ (n : Nat), val (hi n) = n := by
  intro n
  induction n using Nat.strongRecOn with
  | _ n ih =>
    by_cases h : n = 0
    · subst h; rw [hi_zero]; rfl
    · rw [hi_pos h, val_snoc, ih _ (by omega), toNat_ofNat (by omega)]; omega
theorem val_vb (n : Nat) : val (vb n) = n := by
  unfold vb; rw [val_snoc, val_hi, toNat_ofNat (by omega)]; omega
theorem vb_length (n : Nat) : (vb n).length = (hi (n / 128)).length + 1 := by simp [vb]
theorem numG_first {l : List UInt8} {n k i : Nat} (h : numG l = some (n, k)) (hg : ∀ j, j < i → ∀ c, l[j]? = some c → 128 ≤ c.toNat) : i < k := by
  obtain ⟨e1, e2, e3⟩ := numG_some h
  have hl := vb_length n
  rcases Nat.lt_or_ge i k with q | q
  · exact q
  · have hc : l[k - 1]? = some (UInt8.ofNat (n % 128)) := by
      rw [e1, List.getElem?_append_left (by omega)]
      unfold vb
      rw [List.getElem?_append_right (by omega), show k - 1 - (hi (n / 128)).length = 0 by omega]; rfl
    have := hg (k - 1) (by omega) _ hc
    rw [toNat_ofNat (by omega)] at this; omega
theorem numG_last {l : List UInt8} {n k i : Nat} {c : UInt8} (h : numG l = some (n, k)) (hc : l[i]? = some c) (hlt : c.toNat < 128) : k ≤ i + 1 := by
  obtain ⟨e1, e2, e3⟩ := numG_some h
  have hl := vb_length n
  rcases Nat.lt_or_ge (i + 1) k with q | q
  · rw [e1, List.getElem?_append_left (by omega)] at hc
    unfold vb at hc
    rw [List.getElem?_append_left (by omega)] at hc
    have := hi_ge _ c (List.mem_of_getElem? hc); omega
  · omega
theorem mul128 {n : Nat} : Value.int .u64 (IntKind.u64.wrap (128 * (n : Int))) = .int .u64 ((128 * n % 18446744073709551616 : Nat) : Int) := by
  congr 1
theorem take_snoc {l : List UInt8} {i : Nat} {c : UInt8} (hc : l[i]? = some c) : l.take (i + 1) = l.take i ++ [c] := by rw [List.take_add_one, hc]; rfl
theorem ge_step {l : List UInt8} {i : Nat} {c : UInt8} (hg : ∀ j, j < i → ∀ c, l[j]? = some c → 128 ≤ c.toNat) (hc : l[i]? = some c) (h : 128 ≤ c.toNat) : ∀ j, j < i + 1 → ∀ c, l[j]? = some c → 128 ≤ c.toNat := by
  intro j hj d hd
  rcases Nat.lt_or_ge j i with q | q
  · exact hg j q d hd
  · obtain rfl : j = i := by omega
    rw [hc] at hd; cases hd; exact h
theorem ref_no {l : List UInt8} {i : Nat} (hg : ∀ j, j < i → ∀ c, l[j]? = some c → 128 ≤ c.toNat) (hi2 : 10 ≤ i ∨ l.length ≤ i) : numG l = none := by
  cases hv : numG l with
  | none => rfl
  | some p =>
    obtain ⟨n, k⟩ := p
    have := numG_first hv hg
    have := numG_le hv
    omega
theorem ref_ne {l : List UInt8} {i n : Nat} {c : UInt8} (hg : ∀ j, j < i → ∀ c, l[j]? = some c → 128 ≤ c.toNat) (hc : l[i]? = some c) (hlt : c.toNat < 128) (hn : n = val (l.take (i + 1)) % 18446744073709551616) (hne : vb n ≠ l.take (i + 1)) : numG l = none := by
  cases hv : numG l with
  | none => rfl
  | some p =>
    obtain ⟨m, k⟩ := p
    have h1 := numG_first hv hg
    have h2 := numG_last hv hc hlt
    obtain ⟨e1, e2, e3⟩ := numG_some hv
    have hk : k = i + 1 := by omega
    have ht : l.take (i + 1) = vb m := by
      rw [← hk, e2]
      conv => lhs; rw [e1]
      rw [List.take_left]
    rw [ht, val_vb, Nat.mod_eq_of_lt e3] at hn
    exact absurd (by rw [hn, ht]) hne
theorem ref_eq {l : List UInt8} {i n : Nat} (hn : n < 18446744073709551616) (hi1 : i < l.length) (he : vb n = l.take (i + 1)) : numG l = some (n, i + 1) := by
  have h1 := numG_vb hn (l.drop (i + 1))
  rw [he, List.take_append_drop, AX] at h1
  rw [h1]; congr 2; omega
theorem ref_ReadV_ran {h : H} (W : Mem h h [] []) {l : List UInt8} (hl : l.length < 9223372036854775808) : Cll tab0 52 [.string (bs l)] h (fun v h2 => v = rvV l ∧ Mem h h2 [] []) := by
  refine Cll.code rfl rfl ?_
  refine WC.env [(0, _)] rfl ?_
  refine F (J (C rfl rfl (C rfl rfl (C rfl rfl (G [(0, _)] rfl ?_)))))
  refine F (J (C rfl rfl (G [(0, _), (5, _)] rfl ?_)))
  refine F (F (J (C rfl rfl (G [(0, _), (5, _), (6, _)] rfl ?_))))
  refine WC.block ?_
  obtain ⟨L1, eL3, M2⟩ := Mem.name W.bare
  refine WC.loop (σ := Nat × Nat) (fun ((n, i)) => [(0, (.string (bs l))), (5, (.int .u64 ((n : Nat) : Int))), (6, (.int .i64 ((i : Nat) : Int)))]) (fun ((n, i)) hh => Mem h hh (L1) [] ∧ n = val (l.take i) % 18446744073709551616 ∧ (∀ j, j < i → ∀ c, l[j]? = some c → 128 ≤ c.toNat) ∧ i ≤ l.length) (fun ((n, i)) => l.length - i) (0, 0) rfl ⟨M2, ?_⟩ ?_
  · exact ⟨rfl, by omega, by omega⟩
  ·rintro ⟨n, i⟩ h4 ⟨M5, ⟨hO, hg, hi1⟩⟩
   replace eL3 := eL3.symm; subst eL3
   refine WC.env [(0, _), (5, _), (6, _)] rfl ?_
   refine F (F (J (C rfl rfl (C rfl rfl (C rfl (op_lenS (l := l) rfl) ?_)))))
   refine WS.lssN (a := i) (b := (l).length) rfl rfl rfl (fun e10 => ?_) (fun e10 => ?_)
   ·
    refine C rfl rfl (C rfl rfl ?_)
    refine WS.lssN (a := i) (b := 10) rfl rfl rfl (fun e13 => ?_) (fun e13 => ?_)
    ·
     refine C rfl rfl (G [(0, _), (5, _), (6, _), (14, _)] rfl ?_)
     refine WC.condT rfl (WC.skip (F (WC.block (F (J (C rfl rfl (Y (.int .u64 ((128 * n % 18446744073709551616 : Nat) : Int)) rfl rfl mul128 (C rfl rfl (C rfl rfl ?_)))))))))
     obtain ⟨c, hc⟩ : ∃ c, l[i]? = some c := ⟨_, List.getElem?_eq_getElem (show i < l.length by omega)⟩
     have hcl := c.toNat_lt
     have hts := take_snoc hc
     have hv : (128 * n % 18446744073709551616 + c.toNat % 128) = val (l.take (i + 1)) % 18446744073709551616 := by rw [hts, val_snoc, hO]; omega
     refine C rfl (op_ixS i rfl rfl hc) (Y (.int .u8 ((((c).toNat % 128) : Nat) : Int)) rfl rfl (rem_k (a := (c).toNat) (b := 128)) (Y (.int .u64 ((((c).toNat % 128) : Nat) : Int)) rfl rfl (cv_u64 (n := ((c).toNat % 128)) (by omega)) (Y (.int .u64 ((((128 * n % 18446744073709551616) + ((c).toNat % 128)) : Nat) : Int)) rfl rfl (add_u64 (a := (128 * n % 18446744073709551616)) (b := ((c).toNat % 128)) (by omega)) (C rfl rfl (G [(0, _), (5, _), (6, _)] rfl ?_)))))
     refine F (J (C rfl rfl (C rfl rfl (C rfl (op_ixS i rfl rfl hc) ?_))))
     refine WS.lssN (a := (c).toNat) (b := 128) rfl rfl rfl (fun e28 => ?_) (fun e28 => ?_)
     ·
      refine G [(0, _), (5, _), (6, _), (28, _)] rfl ?_
      refine WC.condT rfl (F (F (WC.draw M5 [] rfl ?_)))
      intro rb6 h7 M8
      refine C rfl rfl (C rfl rfl (C rfl rfl (Y (.int .i64 (((i + 1) : Nat) : Int)) rfl rfl (add_i64 (a := i) (b := 1) (by omega)) (C rfl (op_slS1 (l := l) (i + 1) rfl rfl (by first | omega | (simp only [AQ, AX, D, X, AZ, U]; omega) | (simp only [AQ, AX, D, X, AZ, U] at *; omega))) ?_))))
      refine WS.call rfl rfl rfl (ref_One_ran M8.here (n := ((128 * n % 18446744073709551616) + ((c).toNat % 128))) (by omega)) ?_
      rintro _ h9 ⟨rfl, N10⟩
      have M11 := M8.trans N10
      refine WS.sneq (l := (vb ((128 * n % 18446744073709551616) + ((c).toNat % 128)))) (m := ((l).take (i + 1))) rfl rfl rfl (fun e35 => ?_) (fun e35 => ?_)
      ·
       refine G [(5, _), (6, _), (35, _)] rfl ?_
       refine WC.condT rfl (F (J (C rfl rfl (C rfl rfl (C rfl rfl (G [(2, _), (3, _), (4, _)] rfl ?_))))))
       refine WC.ret (⟨[_, _, _], (res_tmp rfl (res_tmp rfl (res_tmp rfl res_nil))), ?_⟩)
       exact ⟨by rw [rvV_none (ref_ne hg hc (by omega) hv (by assumption))]; rfl, M11.bare.bare.take 0⟩
      ·
       refine G [(5, _), (6, _), (35, _)] rfl ?_
       refine WC.condF rfl (WC.skip (F (J (C rfl rfl (C rfl rfl (Y (.int .i64 (((i + 1) : Nat) : Int)) rfl rfl (add_i64 (a := i) (b := 1) (by omega)) (C rfl rfl (C rfl rfl (C rfl rfl (G [(2, _), (3, _), (4, _)] rfl ?_))))))))))
       refine WC.ret (⟨[_, _, _], (res_tmp rfl (res_tmp rfl (res_tmp rfl res_nil))), ?_⟩)
       exact ⟨by rw [rvV_some (ref_eq (n := 128 * n % 18446744073709551616 + c.toNat % 128) (i := i) (by omega) (by omega) (by assumption))]; rfl, M11.bare.bare.take 0⟩
     ·
      refine G [(0, _), (5, _), (6, _), (28, _)] rfl ?_
      refine WC.condF rfl (WC.skip (J (C rfl rfl (Y (.int .i64 (((i + 1) : Nat) : Int)) rfl rfl (add_i64 (a := i) (b := 1) (by omega)) (C rfl rfl (G [(0, _), (5, _), (6, _)] rfl ?_))))))
      refine ⟨((128 * n % 18446744073709551616 + c.toNat % 128), i + 1), rfl, ⟨(M5.bare.take 0), ?_⟩, ?_⟩
      · exact ⟨hv, ge_step hg hc (by omega), by omega⟩
      · simp only []; omega
    ·
     refine C rfl rfl (G [(0, _), (5, _), (6, _), (14, _)] rfl ?_)
     refine WC.condF rfl (WC.exit ?_)
     refine F (J (C rfl rfl (C rfl rfl (C rfl rfl (G [(2, _), (3, _), (4, _)] rfl ?_)))))
     refine WC.ret (⟨[_, _, _], (res_tmp rfl (res_tmp rfl (res_tmp rfl res_nil))), ?_⟩)
     exact ⟨by rw [rvV_none (ref_no hg (by omega))]; rfl, M5.bare.take 0⟩
   ·
    refine C rfl rfl (BQ rfl (BQ rfl (C rfl rfl (G [(0, _), (5, _), (6, _), (14, _)] rfl ?_))))
    refine WC.condF rfl (WC.exit ?_)
    refine F (J (C rfl rfl (C rfl rfl (C rfl rfl (G [(2, _), (3, _), (4, _)] rfl ?_)))))
    refine WC.ret (⟨[_, _, _], (res_tmp rfl (res_tmp rfl (res_tmp rfl res_nil))), ?_⟩)
    exact ⟨by rw [rvV_none (ref_no hg (by omega))]; rfl, M5.bare.take 0⟩
theorem ref_ReadS_ran {h : H} (W : Mem h h [] []) {l : List UInt8} (hl : l.length < 4611686018427387904) : Cll tab0 53 [.string (bs l)] h (fun v h2 => v = rsV l ∧ Mem h h2 [] []) := by
  have hk := rvK_le l
  have hn64 := rvN_lt l
  refine Cll.code rfl rfl ?_
  refine WC.env [(0, _)] rfl ?_
  refine F (J (C rfl rfl (C rfl rfl (C rfl rfl (G [(0, _)] rfl ?_)))))
  refine F (J (C rfl rfl ?_))
  refine WS.call rfl rfl rfl (ref_ReadV_ran W.here (l := l) (by first | omega | (simp only [AQ, AX, D, X, AZ, U]; omega) | (simp only [AQ, AX, D, X, AZ, U] at *; omega))) ?_
  rintro _ h1 ⟨rfl, N2⟩
  have M3 := W.trans N2
  refine C rfl rfl (C rfl rfl (C rfl rfl (C rfl rfl (C rfl rfl (C rfl rfl (C rfl rfl (G [(0, _), (5, _), (6, _), (7, _)] rfl ?_)))))))
  refine F (F ?_)
  obtain ⟨L5, eL7, M6⟩ := Mem.name M3.bare
  refine WC.joinB (base := h) (fun b => [(0, (.string (bs l))), (5, (.int .u64 (((rvN l) : Nat) : Int))), (6, (.int .i64 (((rvK l) : Nat) : Int))), (31, .bool b)]) L5 (getS l = none) (rvOK l = true ∧ rvN l ≤ l.length - rvK l) ?_ ?_ ?_
  ·replace eL7 := eL7.symm; subst eL7
   refine C rfl rfl ?_
   cases hb1 : (rvOK l)
   ·
    refine Y (.bool true) rfl rfl rfl (C rfl rfl (BQ rfl (BQ rfl (BQ rfl (BQ rfl (BQ rfl (C rfl rfl (C rfl rfl (BQ rfl ?_)))))))))
    refine BQ rfl (BQ rfl (BQ rfl (BQ rfl (BQ rfl (BQ rfl (C rfl rfl ?_))))))
    refine WS.nil' ⟨true, rfl, (M6.bare.take 0), fun _ => ?_, fun hh => ?_⟩
    · first | exact getS_no hb1 | exact getS_far (by omega)
    · cases hh
   ·
    refine Y (.bool false) rfl rfl rfl (C rfl rfl (C rfl rfl (C rfl rfl (C rfl (op_lenS (l := l) rfl) (Y (.int .u64 (((l).length : Nat) : Int)) rfl rfl (cv_u64 (n := (l).length) (by omega)) ?_)))))
    refine WS.gtrN (a := (rvN l)) (b := (l).length) rfl rfl rfl (fun e21 => ?_) (fun e21 => ?_)
    ·
     refine C rfl rfl (C rfl rfl (BQ rfl (BQ rfl (BQ rfl (BQ rfl (BQ rfl (BQ rfl (BQ rfl (C rfl rfl ?_)))))))))
     refine WS.nil' ⟨true, rfl, (M6.bare.take 0), fun _ => ?_, fun hh => ?_⟩
     · first | exact getS_no hb1 | exact getS_far (by omega)
     · cases hh
    ·
     refine C rfl rfl (C rfl rfl (C rfl rfl (C rfl rfl (Y (.int .i64 (((rvN l) : Nat) : Int)) rfl rfl (cv_i64 (n := (rvN l)) (by have := rvN_lt l; omega)) (Y (.int .i64 ((((rvK l) + (rvN l)) : Nat) : Int)) rfl rfl (add_i64 (a := (rvK l)) (b := (rvN l)) (by have := rvK_le l; have := rvN_lt l; omega)) (C rfl rfl (C rfl (op_lenS (l := l) rfl) ?_)))))))
     refine WS.gtrN (a := ((rvK l) + (rvN l))) (b := (l).length) rfl rfl rfl (fun e30 => ?_) (fun e30 => ?_)
     ·
      refine C rfl rfl ?_
      refine WS.nil' ⟨true, rfl, (M6.bare.take 0), fun _ => ?_, fun hh => ?_⟩
      · first | exact getS_no hb1 | exact getS_far (by omega)
      · cases hh
     ·
      refine C rfl rfl ?_
      refine WS.nil' ⟨false, rfl, (M6.bare.take 0), fun hh => ?_, fun _ => ?_⟩
      · cases hh
      · exact ⟨rfl, by omega⟩
  ·intro h8 M9 hp31
   replace eL7 := eL7.symm; subst eL7
   refine WC.condT rfl (F (J (C rfl rfl (C rfl rfl (C rfl rfl (G [(2, _), (3, _), (4, _)] rfl ?_))))))
   refine WC.ret (⟨[_, _, _], (res_tmp rfl (res_tmp rfl (res_tmp rfl res_nil))), ?_⟩)
   exact ⟨by rw [rsV_none hp31]; rfl, M9.bare.take 0⟩
  ·intro h10 M11 hp31
   replace eL7 := eL7.symm; subst eL7
   refine WC.condF rfl (WC.skip (F (J (C rfl rfl (C rfl rfl (C rfl rfl (C rfl rfl (Y (.int .i64 (((rvN l) : Nat) : Int)) rfl rfl (cv_i64 (n := (rvN l)) (by have := rvN_lt l; omega)) (Y (.int .i64 ((((rvK l) + (rvN l)) : Nat) : Int)) rfl rfl (add_i64 (a := (rvK l)) (b := (rvN l)) (by have := rvK_le l; have := rvN_lt l; omega)) (C rfl (op_slS2 (l := l) (rvK l) ((rvK l) + (rvN l)) rfl rfl rfl (by first | omega | (simp only [AQ, AX, D, X, AZ, U]; omega) | (simp only [AQ, AX, D, X, AZ, U] at *; omega)) (by first | omega | (simp only [AQ, AX, D, X, AZ, U]; omega) | (simp only [AQ, AX, D, X, AZ, U] at *; omega))) (C rfl rfl (C rfl rfl (Y (.int .i64 (((rvN l) : Nat) : Int)) rfl rfl (cv_i64 (n := (rvN l)) (by have := rvN_lt l; omega)) ?_)))))))))))))
   refine Y (.int .i64 ((((rvK l) + (rvN l)) : Nat) : Int)) rfl rfl (add_i64 (a := (rvK l)) (b := (rvN l)) (by have := rvK_le l; have := rvN_lt l; omega)) (C rfl rfl (C rfl rfl (C rfl rfl (G [(2, _), (3, _), (4, _)] rfl ?_))))
   refine WC.ret (⟨[_, _, _], (res_tmp rfl (res_tmp rfl (res_tmp rfl res_nil))), ?_⟩)
   exact ⟨by rw [rsV_some (getS_yes hp31.1 hp31.2)]; rfl, M11.bare.take 0⟩
end Go.Proofs.Ytkfjlbdedjoojaa.Wt
namespace Go.Proofs.Ytkfjlbdedjoojaa.Wt
open Go Go.Proofs.Ytkfjlbdedjoojaa.Am Go.Proofs.Ytkfjlbdedjoojaa.IrAll
open Go.Proofs.Ytkfjlbdedjoojaa.Am.WS renaming op → C
open List renaming length_append → D
set_option linter.unusedVariables false
set_option linter.unusedSimpArgs false
variable {h base h2 : H} {L : List Seg} {R : List Nat}
def rowW (x : It) : List UInt8 := (sb x.ky ++ sb x.va) ++ (vb x.vn.toNat ++ vb x.ls.toNat)
def wrK (s : KS) : List UInt8 := (vb s.K ++ vb s.M ++ vb s.v ++ vb s.F.length) ++ s.F.flatMap rowW
theorem szI_le {F : List It} {x : It} (h : x ∈ F) : szI x ≤ szF F := by
  induction F with
  | nil => simp at h
  | cons y F ih =>
    rw [szF_cons]
    rcases List.mem_cons.1 h with rfl | h
    · omega
    · have := ih h; omega
theorem rowW_len {x : It} (h : szI x ≤ 2147483647) : (rowW x).length ≤ szI x + 40 := by
  simp only [szI] at h
  have h1 := sb_len (t := x.ky) (by omega)
  have h2 := sb_len (t := x.va) (by omega)
  have h3 := vb_len (UInt64.toNat_lt x.vn)
  have h4 := vb_len (UInt64.toNat_lt x.ls)
  unfold rowW; simp only [D, szI]; omega
theorem rows_len {F : List It} (h : szF F ≤ 2147483647) : (F.flatMap rowW).length ≤ szF F + 40 * F.length := by
  induction F with
  | nil => simp
  | cons x F ih =>
    rw [szF_cons] at h
    have h1 := rowW_len (x := x) (by omega)
    have h2 := ih (by omega)
    rw [List.flatMap_cons, D, szF_cons, List.length_cons]; omega
theorem head_len {a b c d : Nat} (h1 : a < 18446744073709551616) (h2 : b < 18446744073709551616) (h3 : c < 18446744073709551616) (h4 : d < 18446744073709551616) : (vb a ++ vb b ++ vb c ++ vb d).length ≤ 40 := by
  have := vb_len h1; have := vb_len h2; have := vb_len h3; have := vb_len h4
  simp only [D]; omega
theorem Len_ro (W : Mem h h [] []) {p : Nat} {LL : List (List It)} {S : Seg} (G : PgSt p LL S) (hS : ∀ p ∈ S, h.get p.1 = some p.2) : Cll tab0 36 [.pointer (some ⟨p, 0, none⟩)] h (fun v h2 => v = .int .i64 ((LL.flatten.length : Nat) : Int) ∧ Mem h h2 [] []) := by
  obtain ⟨gs, rfl, hok, A⟩ := G.read hS
  exact Len_ran W A
set_option maxRecDepth 8000 in
theorem kWrite_st {s : Nat} {st : KS} {S : Seg} (G : KvSt s st S) (M : Mem base h (S :: L) []) (hok : KOk st) (hn : st.F.length ≤ 800000) (hv : st.v < 18446744073709551616) : Cll tab0 12 [.pointer (some ⟨s, 0, none⟩)] h (fun u h2 => u = .string (bs (wrK st)) ∧ ∃ S2, KvSt s st S2 ∧ Mem base h2 (S2 :: L) []) := by
  obtain ⟨p, Sp, LL, K, Mx, v, rfl, G, hI, M⟩ := G.open M
  have hN : LL.flatten.length ≤ 800000 := hn
  have hm2 : szF LL.flatten ≤ 2147483647 := Nat.le_trans hok.sz hok.M
  have hK : K ≤ 2147483647 := hok.K
  have hMx : Mx ≤ 2147483647 := hok.M
  have hv2 : v < 18446744073709551616 := hv
  refine Cll.code rfl rfl ?_
  refine WC.env [(0, _)] rfl ?_
  refine WC.seq (WC.run (C rfl rfl (WS.nil [(0, _)] rfl ?_)))
  refine WC.seq (WC.seq (WC.run (C rfl rfl (WS.opV (.bool false) rfl rfl rfl (WS.nil [(0, _), (7, _)] rfl ?_)))))
  refine WC.condF rfl (WC.skip (WC.seq (WC.draw M [20] rfl ?_)))
  intro rb1 h2 M3
  refine C rfl rfl (C rfl rfl (C rfl rfl (C rfl (op_ld (M3.at 0 rfl) rfl rfl) (WS.opV (.int .u64 ((K : Nat) : Int)) rfl rfl (cv_u64 (n := K) (by omega)) (C rfl rfl (C rfl rfl (C rfl rfl (C rfl (op_ld (M3.at 0 rfl) rfl rfl) (WS.opV (.int .u64 ((Mx : Nat) : Int)) rfl rfl (cv_u64 (n := Mx) (by omega)) ?_)))))))))
  refine C rfl rfl (C rfl rfl (C rfl rfl (C rfl (op_ld (M3.at 0 rfl) rfl rfl) (C rfl rfl (C rfl rfl (C rfl rfl (C rfl (op_ld (M3.at 0 rfl) rfl rfl) ?_)))))))
  refine WS.call rfl rfl rfl (Len_ro M3.here G (Mem.owni M3 1 rfl)) ?_
  rintro _ h4 ⟨rfl, N5⟩
  have M6 := M3.trans N5
  refine WS.chk rfl (op_ld (M6.at 0 rfl) rfl rfl) rfl (sameV_refl rfl) (WS.chk rfl (op_ld (M6.at 0 rfl) rfl rfl) rfl (sameV_refl rfl) (WS.chk rfl (op_ld (M6.at 0 rfl) rfl rfl) rfl (sameV_refl rfl) (WS.opV (.int .u64 ((LL.flatten.length : Nat) : Int)) rfl rfl (cv_u64 (n := LL.flatten.length) (by omega)) ?_)))
  refine WS.bslA M6 [_, _, _, _] 0 rfl rfl rfl rfl rfl ?_
  intro h8 M9
  refine WS.call rfl rfl rfl (num_V_ran M9.here (Row.Sl.own (K := KNat) (l := [K, Mx, v, LL.flatten.length]) (M9.at 0 rfl)) (by intro n hn; simp only [List.mem_cons, List.mem_nil_iff, or_false] at hn; omega) (by simp) (r := ((vb K) ++ (vb Mx) ++ (vb v) ++ (vb LL.flatten.length))) (by simp [List.flatMap])) ?_
  rintro _ h10 ⟨rfl, N11⟩
  have M12 := M9.trans N11
  refine C rfl rfl (WS.nil [(0, _), (3, _)] rfl ?_)
  refine WC.seq (WC.seq (WC.run (C rfl rfl (C rfl rfl (C rfl rfl (C rfl (op_ld (M12.bare.at 1 rfl) rfl rfl) ?_))))))
  refine WS.call rfl rfl rfl (Range_st (fr := []) (to := []) (most := (4611686018427387903 : Int)) G (M12.bare.bare.focus 2 rfl) hI (Nat.le_trans hN (by omega))) ?_
  rintro V17 h13 ⟨S15, O16, M14⟩
  rw [range_all62 (Nat.le_trans hN (by omega))] at O16
  obtain ⟨P18, rfl⟩ := Row.Own.shape O16
  replace M14 : Mem _ _ (S15 :: Sp :: [((rb1 + 20), _)] :: [(s, _)] :: L) _ := M14
  refine C rfl (op_lenVO O16 rfl) (C rfl rfl (WS.nil [(3, _), (34, _), (35, _), (36, _)] rfl ?_))
  refine WC.block ?_
  obtain ⟨L19, eL21, M20⟩ := Mem.name M14.bare
  refine WC.loop (σ := List UInt8 × Nat) (fun ((out, i)) => [(3, (.string (bs out))), (34, (.slice P18 ((LL).flatten).length (2 * ((LL).flatten).length))), (35, (.int .i64 ((((LL).flatten).length : Nat) : Int))), (36, (.int .i64 ((i : Nat) : Int)))]) (fun ((out, i)) hh => Mem base hh (L19) [] ∧ out = (vb K ++ vb Mx ++ vb v ++ vb LL.flatten.length) ++ (LL.flatten.take i).flatMap rowW ∧ i ≤ LL.flatten.length) (fun ((out, i)) => LL.flatten.length - i) (((vb K) ++ (vb Mx) ++ (vb v) ++ (vb LL.flatten.length)), 0) rfl ⟨M20, ?_⟩ ?_
  · exact ⟨by simp, by omega⟩
  ·rintro ⟨out, i⟩ h22 ⟨M23, ⟨hE, hi⟩⟩
   replace eL21 := eL21.symm; subst eL21
   refine WC.env [(3, _), (34, _), (35, _), (36, _)] rfl ?_
   refine WC.seq (WC.run ?_)
   have hfl := flatMap_take_le LL.flatten i rowW
   have hrl := rows_len hm2
   have hhl := head_len (a := K) (b := Mx) (c := v) (d := LL.flatten.length) (by omega) (by omega) (by omega) (by omega)
   refine WS.lssN (a := i) (b := ((LL).flatten).length) rfl rfl rfl (fun e37 => ?_) (fun e37 => ?_)
   ·
    refine WS.nil [(3, _), (34, _), (35, _), (36, _), (37, _)] rfl ?_
    refine WC.seq (WC.condT rfl (WC.skip (WC.seq (WC.block (WC.seq (WC.run ?_))))))
    obtain ⟨y38, hy38⟩ : ∃ y, ((LL).flatten)[i]? = some y := ⟨_, List.getElem?_eq_getElem (show i < ((LL).flatten).length by first | omega | (simp only [List.length_drop, List.length_take, D, List.length_cons, List.length_nil, List.length_singleton]; omega) | (simp only [List.length_drop, List.length_take, D, List.length_cons, List.length_nil, List.length_singleton] at *; omega))⟩
    have hyl := szI_le (List.mem_of_getElem? hy38)
    simp only [szI] at hyl
    have hyv := UInt64.toNat_lt y38.vn
    have hyz := UInt64.toNat_lt y38.ls
    have hb1 := sb_len (t := y38.ky) (by omega)
    have hb2 := sb_len (t := y38.va) (by omega)
    have hb3 := vb_len hyv
    have hb4 := vb_len hyz
    have hol := congrArg List.length hE
    rw [D] at hol
    refine WS.iaVS (Row.Own.sl O16 (Mem.owni M23 0 rfl)) i hy38 rfl rfl rfl rfl ?_
    intro b38_ o38_ ha38
    refine C rfl (op_ldAt rfl ha38 rfl) ?_
    refine WS.new M23 rfl ?_
    intro p24 h25 M26
    refine WS.st1 (M26.focus 0 rfl) [_, _, _, _] [_, _, _, _] rfl rfl rfl rfl rfl (Nat.le_of_ble_eq_true rfl) (Nat.le_of_ble_eq_true rfl) rfl rfl ?_
    intro h27 M28
    replace M28 : Mem _ _ ([(p24, _)] :: S15 :: Sp :: [((rb1 + 20), _)] :: [(s, _)] :: L) _ := M28
    refine WS.nil [(3, _), (5, _), (34, _), (35, _), (36, _)] rfl ?_
    refine WC.draw M28 [6, 14] rfl ?_
    intro rb29 h30 M31
    refine C rfl rfl (C rfl rfl (C rfl (op_ld (M31.at 0 rfl) rfl rfl) (C rfl rfl (C rfl rfl (C rfl (op_ld (M31.at 0 rfl) rfl rfl) (C rfl rfl (C rfl rfl (C rfl (op_ld (M31.at 0 rfl) rfl rfl) (C rfl rfl ?_)))))))))
    refine C rfl rfl (C rfl (op_ld (M31.at 0 rfl) rfl rfl) ?_)
    refine WS.bslA M31 [_, _] 0 rfl rfl rfl rfl rfl ?_
    intro h33 M34
    refine WS.call rfl rfl rfl (num_S_ran M34.here (Row.Sl.own (K := KStr) (l := [y38.ky, y38.va]) (M34.at 0 rfl)) (by simp only [List.map_cons, List.map_nil, List.sum_cons, List.sum_nil, List.length_cons, List.length_nil]; omega) (r := ((sb y38.ky) ++ (sb y38.va))) (by simp [List.flatMap])) ?_
    rintro _ h35 ⟨rfl, N36⟩
    have M37 := M34.trans N36
    refine WS.chk rfl (op_ld (M37.at 1 rfl) rfl rfl) rfl (sameV_refl rfl) (WS.chk rfl (op_ld (M37.at 1 rfl) rfl rfl) rfl (sameV_refl rfl) ?_)
    refine WS.bslA M37 [_, _] 0 rfl rfl rfl rfl rfl ?_
    intro h39 M40
    refine WS.call rfl rfl rfl (num_V_ran M40.here (Row.Sl.own (K := KNat) (l := [(y38.vn).toNat, (y38.ls).toNat]) (M40.at 0 rfl)) (by intro n hn; simp only [List.mem_cons, List.mem_nil_iff, or_false] at hn; omega) (by simp) (r := ((vb ((y38.vn).toNat)) ++ (vb ((y38.ls).toNat)))) (by simp [List.flatMap])) ?_
    rintro _ h41 ⟨rfl, N42⟩
    have M43 := M40.trans N42
    refine C rfl (op_sadd (l := ((sb y38.ky) ++ (sb y38.va))) (m := ((vb ((y38.vn).toNat)) ++ (vb ((y38.ls).toNat)))) rfl rfl (by first | omega | (simp only [List.length_drop, List.length_take, D, List.length_cons, List.length_nil, List.length_singleton]; omega) | (simp only [List.length_drop, List.length_take, D, List.length_cons, List.length_nil, List.length_singleton] at *; omega))) (C rfl (op_sadd (l := out) (m := (((sb y38.ky) ++ (sb y38.va)) ++ ((vb ((y38.vn).toNat)) ++ (vb ((y38.ls).toNat))))) rfl rfl (by first | omega | (simp only [List.length_drop, List.length_take, D, List.length_cons, List.length_nil, List.length_singleton]; omega) | (simp only [List.length_drop, List.length_take, D, List.length_cons, List.length_nil, List.length_singleton] at *; omega))) (C rfl rfl (WS.nil [(3, _), (34, _), (35, _), (36, _)] rfl ?_)))
    refine WC.run (WS.opV (.int .i64 (((i + 1) : Nat) : Int)) rfl rfl (add_i64 (a := i) (b := 1) (by omega)) (C rfl rfl (WS.nil [(3, _), (34, _), (35, _), (36, _)] rfl ?_)))
    refine ⟨((out ++ (((sb y38.ky) ++ (sb y38.va)) ++ ((vb ((y38.vn).toNat)) ++ (vb ((y38.ls).toNat))))), i + 1), rfl, ⟨(((((M43.bare.focus 0 rfl).drop).focus 0 rfl).drop).focus 0 rfl).drop, ?_⟩, ?_⟩
    · exact ⟨by rw [hE, flatMap_take_succ rowW hy38, List.append_assoc]; rfl, by omega⟩
    · simp only []; omega
   ·
    refine WS.nil [(3, _), (34, _), (35, _), (36, _), (37, _)] rfl ?_
    refine WC.seq (WC.condF rfl (WC.exit ?_))
    refine WC.seq (WC.run (C rfl rfl (C rfl rfl (WS.nil [(2, _)] rfl ?_))))
    refine WC.ret (⟨[_], (res_tmp rfl res_nil), ?_⟩)
    have e : wrK ⟨LL.flatten, K, Mx, v⟩ = out := by rw [hE, List.take_of_length_le (by omega)]; rfl
    rw [e]
    exact ⟨rfl, (KvSt.shut G hI rfl rfl ((((((M23.focus 0 rfl).drop).focus 1 rfl).drop).focus 0 rfl).focus 1 rfl))⟩
end Go.Proofs.Ytkfjlbdedjoojaa.Wt
namespace Go.Proofs.Ytkfjlbdedjoojaa.Wt
open Go Go.Proofs.Ytkfjlbdedjoojaa.Am Go.Proofs.Ytkfjlbdedjoojaa.IrAll
open Nat renaming le_of_ble_eq_true → C
open Go.Proofs.Ytkfjlbdedjoojaa.Am.WS renaming op → D
set_option linter.unusedVariables false
set_option linter.unusedSimpArgs false
variable {h base h2 : H} {L : List Seg} {R : List Nat}
theorem rv_of {s t : List UInt8} {c : Nat} (hc : c < 18446744073709551616) (h : s = vb c ++ t) : rvN s = c ∧ rvOK s = true ∧ s.drop (rvK s) = t := by
  obtain ⟨e1, e2, e3⟩ := rv_eq_some (show numG s = some (c, (vb c).length) by rw [h]; exact numG_vb hc _)
  refine ⟨e1, e3, ?_⟩
  rw [e2, h, List.drop_left]
theorem rs_of {s t k : List UInt8} (hk : k.length < 18446744073709551616) (h : s = sb k ++ t) : rsT s = k ∧ rsOK s = true ∧ s.drop (rsK s) = t := by
  obtain ⟨e1, e2, e3⟩ := rs_eq_some (show getS s = some (k, (sb k).length) by rw [h]; exact getS_sb hk _)
  refine ⟨e1, e3, ?_⟩
  rw [e2, h, List.drop_left]
theorem rv_cons {s : List UInt8} (h : rvOK s = true) : (s.drop (rvK s)).length + 1 ≤ s.length := by
  have e := numG_eq s
  rw [if_pos h] at e
  have := numG_le e
  rw [List.length_drop]; omega
theorem u64_back {n : Nat} (h : n < 18446744073709551616) : (UInt64.ofNat n).toNat = n := by simp; omega
theorem number_ran {r q : Nat} {s : List UInt8} {w : Bool} (M : Mem base h ([(r, ⟨[.string (bs s)], 0, false⟩)] :: [(q, ⟨[.bool w], 0, false⟩)] :: L) []) (hl : s.length ≤ 1000000) : Cll tab0 48 [.pointer (some ⟨r, 0, none⟩), .pointer (some ⟨q, 0, none⟩)] h (fun v h2 => ∃ m s' w', v = .int .u64 ((UInt64.toNat m : Nat) : Int) ∧ Mem base h2 ([(r, ⟨[.string (bs s')], 0, false⟩)] :: [(q, ⟨[.bool w'], 0, false⟩)] :: L) [] ∧ s'.length ≤ s.length ∧ (w' = true → s'.length + 1 ≤ s.length) ∧ (∀ (c : Nat) t, c < 18446744073709551616 → s = vb c ++ t → w' = w ∧ m.toNat = c ∧ s' = t)) := by
  have hk := rvK_le s
  have hn := rvN_lt s
  refine Cll.code rfl rfl ?_
  refine WC.env [(0, _), (1, _)] rfl ?_
  refine WC.seq (WC.run (D rfl rfl (WS.nil [(0, _), (1, _)] rfl ?_)))
  refine WC.seq (WC.run (D rfl (op_ld (M.at 0 rfl) rfl rfl) ?_))
  refine WS.call rfl rfl rfl (num_ReadV_ran M.here (l := s) (by first | omega | (simp only [List.length_drop, List.length_take, List.length_append, List.length_cons, List.length_nil, List.length_singleton]; omega) | (simp only [List.length_drop, List.length_take, List.length_append, List.length_cons, List.length_nil, List.length_singleton] at *; omega))) ?_
  rintro _ h1 ⟨rfl, N2⟩
  have M3 := M.trans N2
  refine D rfl rfl (WS.opV (.int .u64 (((UInt64.ofNat (rvN s)).toNat : Nat) : Int)) rfl rfl (u64_ofNat (n := (rvN s)) (by have := rvN_lt s; omega)) (D rfl rfl (D rfl rfl (D rfl rfl (D rfl rfl (D rfl rfl (WS.nil [(0, _), (1, _), (3, _), (4, _), (5, _)] rfl ?_)))))))
  refine WC.seq (WC.run (D rfl (op_ld (M3.at 1 rfl) rfl rfl) (D rfl rfl ?_)))
  cases hb1 : w
  ·
   refine WS.off rfl (D rfl rfl ?_)
   refine WS.st1 (M3.focus 1 rfl) [_] [_] rfl rfl rfl rfl rfl (C rfl) (C rfl) rfl rfl ?_
   intro h5 M6
   replace M6 : Mem _ _ ([(q, _)] :: [(r, _)] :: L) _ := M6
   refine WS.nil [(0, _), (3, _), (4, _)] rfl ?_
   refine WC.seq (WC.run (D rfl (op_ld (M6.at 1 rfl) rfl rfl) (D rfl rfl (D rfl (op_slS0 (l := s) (rvK s) rfl rfl (by omega)) ?_))))
   refine WS.st1 (M6.focus 1 rfl) [_] [_] rfl rfl rfl rfl rfl (C rfl) (C rfl) rfl rfl ?_
   intro h7 M8
   replace M8 : Mem _ _ ([(r, _)] :: [(q, _)] :: L) _ := M8
   refine WS.nil [(3, _)] rfl ?_
   refine WC.seq (WC.run (D rfl rfl (D rfl rfl (WS.nil [(2, _)] rfl ?_))))
   refine WC.ret (⟨[_], (res_tmp rfl res_nil), ?_⟩)
   exact ⟨UInt64.ofNat (rvN s), _, _, rfl, M8, by simp, (fun hw => rv_cons (by first | exact hw | cases hw)), fun c t hc e => by obtain ⟨e1, e2, e3⟩ := rv_of hc e; exact ⟨by first | rfl | (rw [e2] at *; simp_all; done) | simp_all, by rw [e1]; exact u64_back hc, e3⟩⟩
  ·
   refine D rfl rfl (D rfl rfl ?_)
   refine WS.st1 (M3.focus 1 rfl) [_] [_] rfl rfl rfl rfl rfl (C rfl) (C rfl) rfl rfl ?_
   intro h9 M10
   replace M10 : Mem _ _ ([(q, _)] :: [(r, _)] :: L) _ := M10
   refine WS.nil [(0, _), (3, _), (4, _)] rfl ?_
   refine WC.seq (WC.run (D rfl (op_ld (M10.at 1 rfl) rfl rfl) (D rfl rfl (D rfl (op_slS0 (l := s) (rvK s) rfl rfl (by omega)) ?_))))
   refine WS.st1 (M10.focus 1 rfl) [_] [_] rfl rfl rfl rfl rfl (C rfl) (C rfl) rfl rfl ?_
   intro h11 M12
   replace M12 : Mem _ _ ([(r, _)] :: [(q, _)] :: L) _ := M12
   refine WS.nil [(3, _)] rfl ?_
   refine WC.seq (WC.run (D rfl rfl (D rfl rfl (WS.nil [(2, _)] rfl ?_))))
   refine WC.ret (⟨[_], (res_tmp rfl res_nil), ?_⟩)
   exact ⟨UInt64.ofNat (rvN s), _, _, rfl, M12, by simp, (fun hw => rv_cons (by first | exact hw | cases hw)), fun c t hc e => by obtain ⟨e1, e2, e3⟩ := rv_of hc e; exact ⟨by first | rfl | (rw [e2] at *; simp_all; done) | simp_all, by rw [e1]; exact u64_back hc, e3⟩⟩
theorem text_ran {r q : Nat} {s : List UInt8} {w : Bool} (M : Mem base h ([(r, ⟨[.string (bs s)], 0, false⟩)] :: [(q, ⟨[.bool w], 0, false⟩)] :: L) []) (hl : s.length ≤ 1000000) : Cll tab0 50 [.pointer (some ⟨r, 0, none⟩), .pointer (some ⟨q, 0, none⟩)] h (fun v h2 => ∃ k s' w', v = .string (bs k) ∧ Mem base h2 ([(r, ⟨[.string (bs s')], 0, false⟩)] :: [(q, ⟨[.bool w'], 0, false⟩)] :: L) [] ∧ s'.length ≤ s.length ∧ k.length ≤ s.length ∧ (∀ c t, c.length < 18446744073709551616 → s = sb c ++ t → w' = w ∧ k = c ∧ s' = t)) := by
  have hk := rsK_le s
  refine Cll.code rfl rfl ?_
  refine WC.env [(0, _), (1, _)] rfl ?_
  refine WC.seq (WC.run (D rfl rfl (WS.nil [(0, _), (1, _)] rfl ?_)))
  refine WC.seq (WC.run (D rfl (op_ld (M.at 0 rfl) rfl rfl) ?_))
  refine WS.call rfl rfl rfl (num_ReadS_ran M.here (l := s) (by first | omega | (simp only [List.length_drop, List.length_take, List.length_append, List.length_cons, List.length_nil, List.length_singleton]; omega) | (simp only [List.length_drop, List.length_take, List.length_append, List.length_cons, List.length_nil, List.length_singleton] at *; omega))) ?_
  rintro _ h1 ⟨rfl, N2⟩
  have M3 := M.trans N2
  refine D rfl rfl (D rfl rfl (D rfl rfl (D rfl rfl (D rfl rfl (D rfl rfl (D rfl rfl (WS.nil [(0, _), (1, _), (3, _), (4, _), (5, _)] rfl ?_)))))))
  refine WC.seq (WC.run (D rfl (op_ld (M3.at 1 rfl) rfl rfl) (D rfl rfl ?_)))
  cases hb1 : w
  ·
   refine WS.off rfl (D rfl rfl ?_)
   refine WS.st1 (M3.focus 1 rfl) [_] [_] rfl rfl rfl rfl rfl (C rfl) (C rfl) rfl rfl ?_
   intro h5 M6
   replace M6 : Mem _ _ ([(q, _)] :: [(r, _)] :: L) _ := M6
   refine WS.nil [(0, _), (3, _), (4, _)] rfl ?_
   refine WC.seq (WC.run (D rfl (op_ld (M6.at 1 rfl) rfl rfl) (D rfl rfl (D rfl (op_slS0 (l := s) (rsK s) rfl rfl (by omega)) ?_))))
   refine WS.st1 (M6.focus 1 rfl) [_] [_] rfl rfl rfl rfl rfl (C rfl) (C rfl) rfl rfl ?_
   intro h7 M8
   replace M8 : Mem _ _ ([(r, _)] :: [(q, _)] :: L) _ := M8
   refine WS.nil [(3, _)] rfl ?_
   refine WC.seq (WC.run (D rfl rfl (D rfl rfl (WS.nil [(2, _)] rfl ?_))))
   refine WC.ret (⟨[_], (res_tmp rfl res_nil), ?_⟩)
   exact ⟨rsT s, _, _, rfl, M8, by simp, rsT_le s, fun c t hc e => by obtain ⟨e1, e2, e3⟩ := rs_of hc e; exact ⟨by first | rfl | (rw [e2] at *; simp_all; done) | simp_all, e1, e3⟩⟩
  ·
   refine D rfl rfl (D rfl rfl ?_)
   refine WS.st1 (M3.focus 1 rfl) [_] [_] rfl rfl rfl rfl rfl (C rfl) (C rfl) rfl rfl ?_
   intro h9 M10
   replace M10 : Mem _ _ ([(q, _)] :: [(r, _)] :: L) _ := M10
   refine WS.nil [(0, _), (3, _), (4, _)] rfl ?_
   refine WC.seq (WC.run (D rfl (op_ld (M10.at 1 rfl) rfl rfl) (D rfl rfl (D rfl (op_slS0 (l := s) (rsK s) rfl rfl (by omega)) ?_))))
   refine WS.st1 (M10.focus 1 rfl) [_] [_] rfl rfl rfl rfl rfl (C rfl) (C rfl) rfl rfl ?_
   intro h11 M12
   replace M12 : Mem _ _ ([(r, _)] :: [(q, _)] :: L) _ := M12
   refine WS.nil [(3, _)] rfl ?_
   refine WC.seq (WC.run (D rfl rfl (D rfl rfl (WS.nil [(2, _)] rfl ?_))))
   refine WC.ret (⟨[_], (res_tmp rfl res_nil), ?_⟩)
   exact ⟨rsT s, _, _, rfl, M12, by simp, rsT_le s, fun c t hc e => by obtain ⟨e1, e2, e3⟩ := rs_of hc e; exact ⟨by first | rfl | (rw [e2] at *; simp_all; done) | simp_all, e1, e3⟩⟩
end Go.Proofs.Ytkfjlbdedjoojaa.Wt
namespace Go.Proofs.Ytkfjlbdedjoojaa.Wt
open Go Go.Proofs.Ytkfjlbdedjoojaa.Am Go.Proofs.Ytkfjlbdedjoojaa.IrAll
open Go.Proofs.Ytkfjlbdedjoojaa.Am.WS renaming op → C
open Nat renaming le_of_ble_eq_true → D
open Go.Proofs.Ytkfjlbdedjoojaa.Am.WS renaming nil → J
set_option linter.unusedVariables false
set_option linter.unusedSimpArgs false
variable {h base h2 : H} {L : List Seg} {R : List Nat}
structure KGood (T : KS) : Prop where
  ok : KOk T
  vn : ∀ y ∈ T.F, 1 ≤ y.vn.toNat ∧ y.vn.toNat ≤ T.v
  v : T.v < 18446744073709551616
theorem KvSt.open2 {s : Nat} {st : KS} {S : Seg} (G : KvSt s st S) (M : Mem base h (S :: L) []) : ∃ p Sp LL, PgSt p LL Sp ∧ Inv LL ∧ LL.flatten = st.F ∧ Mem base h ([(s, ⟨[.pointer (some ⟨p, 0, none⟩), .int .i64 (st.K : Int), .int .i64 (st.M : Int), .int .i64 ((szF st.F : Nat) : Int), .int .u64 (st.v : Int)], 0, false⟩)] :: Sp :: L) [] := by
  obtain ⟨p, Sp, LL, G, hI, hF, rfl⟩ := G
  exact ⟨p, Sp, LL, G, hI, hF, M.perm (by simp)⟩
theorem heldK_id {n : Nat} (h : n ≤ 2147483647) : heldK (n : Int) = n := by unfold heldK; omega
theorem mem_put {F : List It} {it x : It} (h : x ∈ putF F it) : x = it ∨ x ∈ F := by
  unfold putF at h
  simp only [List.mem_append, List.mem_cons, List.mem_filter] at h
  rcases h with ⟨h1, _⟩ | h | ⟨h1, _⟩
  · exact .inr h1
  · exact .inl h
  · exact .inr h1
theorem put_vn {t : KS} {key val : List UInt8} {ls : UInt64} {v : Nat} (h : ∀ y ∈ t.F, 1 ≤ y.vn.toNat ∧ y.vn.toNat ≤ v) (hv : t.v < v) (hv2 : v < 18446744073709551616) : ∀ y ∈ (putK t key val ls).1.F, 1 ≤ y.vn.toNat ∧ y.vn.toNat ≤ v := by
  intro y hy
  unfold putK at hy
  split at hy
  · exact h y hy
  · rcases mem_put hy with rfl | q
    · have : (UInt64.ofNat (t.v + 1)).toNat = t.v + 1 := u64_back (by omega)
      exact ⟨by show 1 ≤ (UInt64.ofNat (t.v + 1)).toNat; omega, by show (UInt64.ofNat (t.v + 1)).toNat ≤ v; omega⟩
    · exact h y q
theorem sz_take {F : List It} (i : Nat) : szF (F.take i) ≤ szF F := by
  have := szF_app (F.take i) (F.drop i); rw [List.take_append_drop] at this; omega
theorem put_next {T : KS} {i v : Nat} {y : It} (g : KGood T) (hy : T.F[i]? = some y) (hv : v + 1 = y.vn.toNat) : putK ⟨T.F.take i, T.K, T.M, v⟩ y.ky y.va y.ls = (⟨T.F.take (i + 1), T.K, T.M, v + 1⟩, 0) := by
  have hs := g.ok.srt
  have hi := (List.getElem?_eq_some_iff.1 hy).1
  have hlt : ∀ z ∈ T.F.take i, kL z.ky y.ky := by
    intro z hz
    obtain ⟨k, hk, rfl⟩ := List.getElem_of_mem hz
    rw [List.length_take] at hk
    rw [List.getElem_take]
    exact srt_get hs (i := k) (j := i) (by omega) (List.getElem?_eq_getElem (by omega)) hy
  have hst : SrtI (T.F.take i) := List.Pairwise.sublist (List.take_sublist _ _) hs
  have e1 : putF (T.F.take i) y = T.F.take (i + 1) := by rw [put_end hlt, List.take_add_one, hy]; rfl
  have hl := len_cost (it := y) hst
  have hz := sz_cost (it := y) hst
  rw [e1] at hl hz
  have h1 := g.ok.len
  have h2 := g.ok.sz
  have h3 := sz_take (F := T.F) (i + 1)
  rw [List.length_take, List.length_take, Nat.min_eq_left (by omega), Nat.min_eq_left (by omega)] at hl
  unfold putK
  rw [if_neg]
  · have e2 : (⟨y.ky, y.va, UInt64.ofNat (v + 1), y.ls⟩ : It) = y := by rw [hv]; simp
    show (({ F := putF (T.F.take i) ⟨y.ky, y.va, UInt64.ofNat (v + 1), y.ls⟩, K := T.K, M := T.M, v := v + 1 } : KS), 0) = _
    rw [e2, e1]
  · rintro (q | q)
    · simp only [List.length_take] at q
      rw [Nat.min_eq_left (by omega)] at q; omega
    · simp only [] at q; omega
def RdI (T0 : KS) (la n : Nat) (t : KS) (rs : List UInt8) (w : Bool) : Prop := w = true ∧ t.K = T0.K ∧ t.M = T0.M ∧ la = T0.v ∧ ∃ i, i + n = T0.F.length ∧ t.F = T0.F.take i ∧ rs = (T0.F.drop i).flatMap rowW
theorem first_pro {s s1 s2 s3 s4 : List UInt8} {w1 w2 w3 w4 : Bool} {m1 m2 m3 m4 : UInt64} (R1 : ∀ (c : Nat) t, c < 18446744073709551616 → s = vb c ++ t → w1 = true ∧ m1.toNat = c ∧ s1 = t) (R2 : ∀ (c : Nat) t, c < 18446744073709551616 → s1 = vb c ++ t → w2 = w1 ∧ m2.toNat = c ∧ s2 = t) (R3 : ∀ (c : Nat) t, c < 18446744073709551616 → s2 = vb c ++ t → w3 = w2 ∧ m3.toNat = c ∧ s3 = t) (R4 : ∀ (c : Nat) t, c < 18446744073709551616 → s3 = vb c ++ t → w4 = w3 ∧ m4.toNat = c ∧ s4 = t) {T0 : KS} (g : KGood T0) (e : wrK T0 = s) : RdI T0 m3.toNat m4.toNat ⟨[], m1.toNat, m2.toNat, 0⟩ s4 w4 := by
  have h1 := g.ok.K; have h2 := g.ok.M; have h3 := g.v; have h4 := g.ok.len
  obtain ⟨a1, a2, a3⟩ := R1 T0.K (vb T0.M ++ (vb T0.v ++ (vb T0.F.length ++ T0.F.flatMap rowW))) (by omega) (by rw [← e]; simp [wrK])
  obtain ⟨b1, b2, b3⟩ := R2 _ _ (by omega) a3
  obtain ⟨c1, c2, c3⟩ := R3 _ _ h3 b3
  obtain ⟨d1, d2, d3⟩ := R4 _ _ (by omega) c3
  exact ⟨by rw [d1, c1, b1, a1], a2, b2, c2, 0, by omega, rfl, d3⟩
theorem quota_pro {s s1 s2 : List UInt8} {w1 w2 : Bool} {m1 m2 : UInt64} (R1 : ∀ (c : Nat) t, c < 18446744073709551616 → s = vb c ++ t → w1 = true ∧ m1.toNat = c ∧ s1 = t) (R2 : ∀ (c : Nat) t, c < 18446744073709551616 → s1 = vb c ++ t → w2 = w1 ∧ m2.toNat = c ∧ s2 = t) {T0 : KS} (g : KGood T0) (e : wrK T0 = s) : m1.toNat ≤ 2147483647 ∧ m2.toNat ≤ 2147483647 := by
  have h1 := g.ok.K; have h2 := g.ok.M
  obtain ⟨a1, a2, a3⟩ := R1 T0.K (vb T0.M ++ (vb T0.v ++ (vb T0.F.length ++ T0.F.flatMap rowW))) (by omega) (by rw [← e]; simp [wrK])
  obtain ⟨b1, b2, b3⟩ := R2 _ _ (by omega) a3
  exact ⟨by omega, by omega⟩
theorem dec_one {m : UInt64} (h : 1 ≤ m.toNat) : (m - 1).toNat + 1 = m.toNat := by
  have h1 : (m - 1).toNat = m.toNat - 1 := by
    rw [UInt64.toNat_sub_of_le]
    · rfl
    · rw [UInt64.le_iff_toNat_le]; exact h
  omega
theorem step_pro {T0 t : KS} {la n : Nat} {rs s1 s2 s3 k1 k2 : List UInt8} {w w1 w2 w3 : Bool} {m3 : UInt64} (g : KGood T0) (hR : RdI T0 la n t rs w) (hn : 0 < n) (R1 : ∀ c t, c.length < 18446744073709551616 → rs = sb c ++ t → w1 = w ∧ k1 = c ∧ s1 = t) (R2 : ∀ c t, c.length < 18446744073709551616 → s1 = sb c ++ t → w2 = w1 ∧ k2 = c ∧ s2 = t) (R3 : ∀ (c : Nat) t, c < 18446744073709551616 → s2 = vb c ++ t → w3 = w2 ∧ m3.toNat = c ∧ s3 = t) :
    w3 = true ∧ (m3 - 1).toNat < la ∧ ∀ (m4 : UInt64) s4 w4, (∀ (c : Nat) t, c < 18446744073709551616 → s3 = vb c ++ t → w4 = w3 ∧ m4.toNat = c ∧ s4 = t) → (putK ⟨t.F, t.K, t.M, (m3 - 1).toNat⟩ k1 k2 m4).2 = 0 ∧ RdI T0 la (n - 1) (putK ⟨t.F, t.K, t.M, (m3 - 1).toNat⟩ k1 k2 m4).1 s4 true := by
  obtain ⟨h1, h2, h3, h4, i, h5, h6, h7⟩ := hR
  obtain ⟨y, hy⟩ : ∃ y, T0.F[i]? = some y := ⟨_, List.getElem?_eq_getElem (by omega)⟩
  have hm := List.mem_of_getElem? hy
  have hz := szI_le hm
  have hz2 := g.ok.sz; have hz3 := g.ok.M
  simp only [szI] at hz
  have hv := g.vn y hm
  rw [drop_at hy, List.flatMap_cons] at h7
  obtain ⟨a1, a2, a3⟩ := R1 y.ky (sb y.va ++ (vb y.vn.toNat ++ (vb y.ls.toNat ++ (T0.F.drop (i + 1)).flatMap rowW))) (by omega) (by rw [h7]; simp [rowW])
  obtain ⟨b1, b2, b3⟩ := R2 _ _ (by omega) a3
  obtain ⟨c1, c2, c3⟩ := R3 _ _ y.vn.toNat_lt b3
  have hd := dec_one (m := m3) (by omega)
  refine ⟨by rw [c1, b1, a1, h1], by omega, fun m4 s4 w4 R4 => ?_⟩
  obtain ⟨d1, d2, d3⟩ := R4 _ _ y.ls.toNat_lt c3
  have em : m4 = y.ls := UInt64.toNat_inj.1 d2
  rw [h6, h2, h3, a2, b2, em, put_next g hy (by omega)]
  exact ⟨rfl, rfl, rfl, rfl, h4, i + 1, by omega, rfl, d3⟩
theorem rd_end {T0 t : KS} {la : Nat} {rs : List UInt8} {w : Bool} (hR : RdI T0 la 0 t rs w) : w = true ∧ (⟨t.F, t.K, t.M, la⟩ : KS) = T0 := by
  obtain ⟨h1, h2, h3, h4, i, h5, h6, h7⟩ := hR
  refine ⟨h1, ?_⟩
  rw [h6, List.take_of_length_le (by omega), h2, h3, h4]
theorem subU1 {m : UInt64} : Value.int .u64 (IntKind.u64.wrap (((m.toNat : Nat) : Int) - 1)) = .int .u64 (((m - 1).toNat : Nat) : Int) := by
  congr 1
  rw [wu64]
  have h := m.toNat_lt
  rw [UInt64.toNat_sub]
  show _ = (((2 ^ 64 - 1 + m.toNat) % 2 ^ 64 : Nat) : Int)
  omega
set_option maxRecDepth 8000 in
set_option maxHeartbeats 2000000 in
theorem kRead_st {s : List UInt8} (M : Mem base h L []) (hl : s.length ≤ 700000) : Cll tab0 25 [.string (bs s)] h (fun v h2 => (∃ p T S, v = .tuple #[.pointer (some ⟨p, 0, none⟩), .bool true] ∧ KGood T ∧ wrK T = s ∧ (∀ T0, KGood T0 → wrK T0 = s → T = T0) ∧ KvSt p T S ∧ Mem base h2 (S :: L) []) ∨ (v = .tuple #[.pointer none, .bool false] ∧ (∀ T0, KGood T0 → wrK T0 ≠ s) ∧ Mem base h2 L [])) := by
  refine Cll.code rfl rfl ?_
  refine WC.env [(0, _)] rfl ?_
  refine WC.seq (WC.run (C rfl rfl (C rfl rfl (J [(0, _)] rfl ?_))))
  refine WC.seq (WC.run (C rfl rfl ?_))
  refine WS.new M rfl ?_
  intro p1 h2 M3
  refine WS.new M3 rfl ?_
  intro p4 h5 M6
  refine WS.st1 (M6.focus 1 rfl) [_] [_] rfl rfl rfl rfl rfl (D rfl) (D rfl) rfl rfl ?_
  intro h7 M8
  replace M8 : Mem _ _ ([(p1, _)] :: [(p4, _)] :: L) _ := M8
  refine WS.st1 (M8.focus 1 rfl) [_] [_] rfl rfl rfl rfl rfl (D rfl) (D rfl) rfl rfl ?_
  intro h9 M10
  replace M10 : Mem _ _ ([(p4, _)] :: [(p1, _)] :: L) _ := M10
  refine J [(0, _), (4, _), (5, _)] rfl ?_
  refine WC.seq (WC.run (C rfl rfl (C rfl rfl (J [(0, _), (4, _), (5, _), (6, _)] rfl ?_))))
  refine WC.seq (WC.run (C rfl rfl (C rfl rfl (J [(0, _), (5, _), (6, _), (7, _)] rfl ?_))))
  refine WC.seq (WC.run (C rfl rfl ?_))
  refine WS.call rfl rfl rfl (number_ran (s := s) (w := true) ((M10.focus 0 rfl).focus 1 rfl) (by omega)) ?_
  rintro _ h11 ⟨m19, s19, w19, rfl, M12, L19, C19, R19⟩
  replace M12 : Mem _ _ ([(p1, _)] :: [(p4, _)] :: L) _ := M12
  refine C rfl rfl ?_
  refine WS.call rfl rfl rfl (number_ran (s := s19) (w := w19) ((M12.focus 1 rfl).focus 1 rfl) (by omega)) ?_
  rintro _ h13 ⟨m21, s21, w21, rfl, M14, L21, C21, R21⟩
  replace M14 : Mem _ _ ([(p1, _)] :: [(p4, _)] :: L) _ := M14
  refine C rfl rfl (C rfl rfl (J [(0, _), (5, _), (6, _), (7, _), (8, _), (9, _)] rfl ?_))
  refine WC.seq (WC.seq (WC.run (C rfl rfl ?_)))
  refine WS.gtrN (a := (m19).toNat) (b := 2147483647) rfl rfl rfl (fun e23 => ?_) (fun e23 => ?_)
  ·
   refine C rfl rfl (WS.off rfl (WS.off rfl (C rfl rfl (J [(0, _), (5, _), (6, _), (7, _), (8, _), (9, _), (27, _)] rfl ?_))))
   refine WC.condT rfl (WC.seq (WC.run (C rfl rfl (C rfl rfl (J [(2, _), (3, _)] rfl ?_)))))
   refine WC.ret (⟨[_, _], (res_tmp rfl (res_tmp rfl res_nil)), ?_⟩)
   exact .inr ⟨rfl, fun T0 g e => by obtain ⟨q1, q2⟩ := quota_pro R19 R21 g e; omega, (((M14.focus 0 rfl).drop).focus 0 rfl).drop⟩
  ·
   refine C rfl rfl (C rfl rfl ?_)
   refine WS.gtrN (a := (m21).toNat) (b := 2147483647) rfl rfl rfl (fun e26 => ?_) (fun e26 => ?_)
   ·
    refine C rfl rfl (J [(0, _), (5, _), (6, _), (7, _), (8, _), (9, _), (27, _)] rfl ?_)
    refine WC.condT rfl (WC.seq (WC.run (C rfl rfl (C rfl rfl (J [(2, _), (3, _)] rfl ?_)))))
    refine WC.ret (⟨[_, _], (res_tmp rfl (res_tmp rfl res_nil)), ?_⟩)
    exact .inr ⟨rfl, fun T0 g e => by obtain ⟨q1, q2⟩ := quota_pro R19 R21 g e; omega, (((M14.focus 0 rfl).drop).focus 0 rfl).drop⟩
   ·
    refine C rfl rfl (J [(0, _), (5, _), (6, _), (7, _), (8, _), (9, _), (27, _)] rfl ?_)
    refine WC.condF rfl (WC.skip (WC.seq (WC.run (C rfl rfl (WS.opV (.int .i64 (((m19).toNat : Nat) : Int)) rfl rfl (cv_i64 (n := (m19).toNat) (by have := UInt64.toNat_lt (m19); omega)) (C rfl rfl (WS.opV (.int .i64 (((m21).toNat : Nat) : Int)) rfl rfl (cv_i64 (n := (m21).toNat) (by have := UInt64.toNat_lt (m21); omega)) ?_)))))))
    refine WS.call rfl rfl rfl (kNew_ran M14.bare) ?_
    rintro _ h15 ⟨x32, S17, rfl, G18, M16⟩
    replace M16 : Mem _ _ (S17 :: [(p1, _)] :: [(p4, _)] :: L) _ := M16
    refine C rfl rfl (J [(0, _), (5, _), (6, _), (7, _), (10, _)] rfl ?_)
    refine WC.seq (WC.run ?_)
    have hk1 : heldK ((m19.toNat : Nat) : Int) = m19.toNat := heldK_id (by omega)
    have hk2 : heldK ((m21.toNat : Nat) : Int) = m21.toNat := heldK_id (by omega)
    have G0_ : KvSt x32 (⟨[], m19.toNat, m21.toNat, 0⟩ : KS) S17 := by have q := G18; rw [hk1, hk2] at q; exact q
    have K0_ : KOk (⟨[], m19.toNat, m21.toNat, 0⟩ : KS) := ⟨by simp [SrtI], Nat.zero_le _, Nat.zero_le _, by show m19.toNat ≤ _; omega, by show m21.toNat ≤ _; omega⟩
    refine C rfl rfl ?_
    refine WS.call rfl rfl rfl (number_ran (s := s21) (w := w21) ((M16.focus 2 rfl).focus 2 rfl) (by omega)) ?_
    rintro _ h19 ⟨m34, s34, w34, rfl, M20, L34, C34, R34⟩
    replace M20 : Mem _ _ ([(p1, _)] :: [(p4, _)] :: S17 :: L) _ := M20
    refine C rfl rfl (J [(0, _), (5, _), (6, _), (7, _), (10, _), (11, _)] rfl ?_)
    refine WC.seq (WC.seq (WC.run (C rfl rfl ?_)))
    refine WS.call rfl rfl rfl (number_ran (s := s34) (w := w34) ((M20.focus 1 rfl).focus 1 rfl) (by omega)) ?_
    rintro _ h21 ⟨m36, s36, w36, rfl, M22, L36, C36, R36⟩
    replace M22 : Mem _ _ ([(p1, _)] :: [(p4, _)] :: S17 :: L) _ := M22
    refine C rfl rfl (J [(0, _), (5, _), (6, _), (7, _), (10, _), (11, _), (12, _)] rfl ?_)
    refine WC.block ?_
    obtain ⟨L23, eL25, M24⟩ := Mem.name3 (((M22.bare.focus 1 rfl).focus 1 rfl).focus 2 rfl)
    refine WC.loop (σ := Seg × KS × List UInt8 × Bool × Nat) (fun ((S_, t, rs, w_, n)) => [(0, (.string (bs s))), (5, (.pointer (some ⟨p4, 0, none⟩))), (6, (.func (.func 48) #[] #[(.pointer (some ⟨p1, 0, none⟩)), (.pointer (some ⟨p4, 0, none⟩))])), (7, (.func (.func 50) #[] #[(.pointer (some ⟨p1, 0, none⟩)), (.pointer (some ⟨p4, 0, none⟩))])), (10, (.pointer (some ⟨x32, 0, none⟩))), (11, (.int .u64 (((m34).toNat : Nat) : Int))), (12, (.int .u64 ((n : Nat) : Int)))]) (fun ((S_, t, rs, w_, n)) hh => Mem base hh (S_ :: [(p1, ⟨[(.string (bs rs))], 0, false⟩)] :: [(p4, ⟨[(.bool w_)], 0, false⟩)] :: L23) [] ∧ KvSt x32 t S_ ∧ KOk t ∧ n < 18446744073709551616 ∧ rs.length ≤ s.length ∧ t.F.length + rs.length ≤ s.length ∧ (∀ y ∈ t.F, 1 ≤ y.vn.toNat ∧ y.vn.toNat ≤ m34.toNat) ∧ (∀ T0, KGood T0 → wrK T0 = s → RdI T0 m34.toNat n t rs w_)) (fun ((S_, t, rs, w_, n)) => n) (_, (⟨[], m19.toNat, m21.toNat, 0⟩ : KS), s36, w36, m36.toNat) rfl ⟨(by exact M24), ?_⟩ ?_
    · exact ⟨G0_, K0_, m36.toNat_lt, by omega, by show 0 + s36.length ≤ _; omega, fun y hy => absurd hy (by simp), fun T0 g e => first_pro R19 R21 R34 R36 g e⟩
    ·rintro ⟨S_, t, rs, w_, n⟩ h26 ⟨M27, ⟨G_, hT, hn64, hrl, hfl, hvn, hP⟩⟩
     replace eL25 := eL25.symm; subst eL25
     refine WC.env [(0, _), (5, _), (6, _), (7, _), (10, _), (11, _), (12, _)] rfl ?_
     refine WC.seq (WC.seq (WC.run (C rfl rfl ?_)))
     refine WS.gtrN (a := n) (b := 0) rfl rfl rfl (fun e38 => ?_) (fun e38 => ?_)
     ·
      refine C rfl rfl (C rfl (op_ld (M27.at 2 rfl) rfl rfl) (C rfl rfl (J [(0, _), (5, _), (6, _), (7, _), (10, _), (11, _), (12, _), (41, _)] rfl ?_)))
      cases w_
      ·
       refine WC.condF rfl (WC.exit ?_)
       refine WC.seq (WC.run (C rfl rfl (C rfl rfl ?_)))
       obtain ⟨p28, Sp29, LL30, G31, hI32, hF33, MO34⟩ := KvSt.open2 G_ (M27.bare.focus 0 rfl)
       refine C rfl rfl (C rfl rfl ?_)
       refine WS.st1 (MO34.focus 0 rfl) [_] [_, _, _, _, _] rfl rfl rfl rfl rfl (D rfl) (D rfl) rfl rfl ?_
       intro h35 M36
       replace M36 : Mem _ _ ([(x32, _)] :: Sp29 :: [(p1, _)] :: [(p4, _)] :: L) _ := M36
       refine J [(0, _), (5, _), (10, _)] rfl ?_
       refine WC.seq (WC.seq (WC.run ?_))
       obtain ⟨S37, K38, M39⟩ := KvSt.shut G31 hI32 hF33 rfl M36
       refine C rfl (op_ld (M39.at 2 rfl) rfl rfl) (WS.opV (.bool true) rfl rfl rfl (C rfl rfl (WS.off rfl (WS.offC rfl (WS.off rfl (WS.off rfl (C rfl rfl (J [(10, _), (83, _)] rfl ?_))))))))
       refine WC.condT rfl (WC.seq (WC.run (C rfl rfl (C rfl rfl (J [(2, _), (3, _)] rfl ?_)))))
       refine WC.ret (⟨[_, _], (res_tmp rfl (res_tmp rfl res_nil)), ?_⟩)
       exact .inr ⟨rfl, fun T0 g e => by first | (have q := (hP T0 g e).1; first | exact absurd q (by decide) | (rw [show w_ = false by assumption] at q; cases q)) | (have q := hP T0 g e; rw [show n = 0 by omega] at q; have q2 := (rd_end q).2; rw [← q2] at e; exact e82 e), (((((M39.focus 0 rfl).drop).focus 0 rfl).drop).focus 0 rfl).drop⟩
      ·
       refine WC.condT rfl (WC.skip (WC.seq (WC.block (WC.seq (WC.run (C rfl rfl ?_))))))
       refine WS.call rfl rfl rfl (text_ran (s := rs) (w := true) ((M27.focus 2 rfl).focus 2 rfl) (by omega)) ?_
       rintro _ h40 ⟨k45, s45, w45, rfl, M41, L45, C45, R45⟩
       replace M41 : Mem _ _ ([(p1, _)] :: [(p4, _)] :: S_ :: L) _ := M41
       refine C rfl rfl ?_
       refine WS.call rfl rfl rfl (text_ran (s := s45) (w := w45) ((M41.focus 1 rfl).focus 1 rfl) (by omega)) ?_
       rintro _ h42 ⟨k47, s47, w47, rfl, M43, L47, C47, R47⟩
       replace M43 : Mem _ _ ([(p1, _)] :: [(p4, _)] :: S_ :: L) _ := M43
       refine C rfl rfl (C rfl rfl (J [(0, _), (5, _), (6, _), (7, _), (10, _), (11, _), (12, _), (13, _), (14, _)] rfl ?_))
       refine WC.seq (WC.run (C rfl rfl (C rfl rfl ?_)))
       refine WS.call rfl rfl rfl (number_ran (s := s47) (w := w47) ((M43.focus 1 rfl).focus 1 rfl) (by omega)) ?_
       rintro _ h44 ⟨m50, s50, w50, rfl, M45, L50, C50, R50⟩
       replace M45 : Mem _ _ ([(p1, _)] :: [(p4, _)] :: S_ :: L) _ := M45
       refine WS.opV (.int .u64 (((m50 - 1).toNat : Nat) : Int)) rfl rfl subU1 ?_
       have hstep := fun T0 (g : KGood T0) (e : wrK T0 = s) => step_pro g (hP T0 g e) (by omega) R45 R47 R50
       have hm34 := m34.toNat_lt
       obtain ⟨p46, Sp47, LL48, G49, hI50, hF51, MO52⟩ := KvSt.open2 G_ (M45.bare.focus 2 rfl)
       refine C rfl rfl (C rfl rfl ?_)
       refine WS.st1 (MO52.focus 0 rfl) [_] [_, _, _, _, _] rfl rfl rfl rfl rfl (D rfl) (D rfl) rfl rfl ?_
       intro h53 M54
       replace M54 : Mem _ _ ([(x32, _)] :: Sp47 :: [(p1, _)] :: [(p4, _)] :: L) _ := M54
       refine J [(0, _), (5, _), (6, _), (7, _), (10, _), (11, _), (12, _), (13, _), (14, _)] rfl ?_
       refine WC.run (C rfl (op_ld (M54.at 3 rfl) rfl rfl) (C rfl rfl ?_))
       cases w50
       ·
        refine WS.off rfl (WS.off rfl (WS.off rfl (WS.off rfl (WS.off rfl (WS.off rfl (C rfl rfl (C rfl rfl (WS.off rfl (WS.off rfl ?_)))))))))
        refine WS.off rfl (WS.off rfl (WS.offC rfl (WS.offC rfl (WS.off rfl (C rfl rfl ?_)))))
        refine WS.st1 (M54.focus 3 rfl) [_] [_] rfl rfl rfl rfl rfl (D rfl) (D rfl) rfl rfl ?_
        intro h55 M56
        replace M56 : Mem _ _ ([(p4, _)] :: [(x32, _)] :: Sp47 :: [(p1, _)] :: L) _ := M56
        refine J [(0, _), (5, _), (6, _), (7, _), (10, _), (11, _), (12, _)] rfl ?_
        refine WC.run ?_
        obtain ⟨S57, K58, M59⟩ := KvSt.shut G49 hI50 hF51 rfl ((((M56.focus 3 rfl).focus 1 rfl).focus 3 rfl).focus 3 rfl)
        refine C rfl rfl (WS.opV (.int .u64 (((n - 1) : Nat) : Int)) rfl rfl (sub_u64 (a := n) (b := 1) (by have := hn64; omega)) (C rfl rfl (J [(0, _), (5, _), (6, _), (7, _), (10, _), (11, _), (12, _)] rfl ?_)))
        refine ⟨(S57, (⟨t.F, t.K, t.M, (m50 - 1).toNat⟩ : KS), _, _, n - 1), rfl, ⟨(((M59.focus 1 rfl).focus 2 rfl).focus 2 rfl), ?_⟩, ?_⟩
        · exact ⟨K58, ⟨hT.srt, hT.len, hT.sz, hT.K, hT.M⟩, by omega, by omega, by show t.F.length + _ ≤ _; omega, hvn, fun T0 g e => by obtain ⟨x1, x2, x3⟩ := hstep T0 g e; first | exact absurd x1 (by decide) | (exfalso; omega)⟩
        · simp only []; omega
       ·
        refine C rfl rfl (C rfl rfl (C rfl rfl (C rfl (op_ld (M54.at 0 rfl) rfl rfl) (C rfl rfl ?_))))
        refine WS.lssN (a := ((m50 - 1)).toNat) (b := (m34).toNat) rfl rfl rfl (fun e61 => ?_) (fun e61 => ?_)
        ·
         refine C rfl rfl (C rfl rfl ?_)
         obtain ⟨S60, K61, M62⟩ := KvSt.shut G49 hI50 hF51 rfl M54
         refine C rfl rfl (C rfl rfl (C rfl rfl (C rfl rfl ?_)))
         refine WS.call rfl rfl rfl (number_ran (s := s50) (w := true) ((M62.focus 2 rfl).focus 2 rfl) (by omega)) ?_
         rintro _ h63 ⟨m68, s68, w68, rfl, M64, L68, C68, R68⟩
         replace M64 : Mem _ _ ([(p1, _)] :: [(p4, _)] :: S60 :: L) _ := M64
         refine WS.call rfl rfl rfl (kPut_st (key := k45) (val := k47) (ls := m68) K61 (M64.bare.focus 2 rfl) (KOk.mk hT.srt hT.len hT.sz hT.K hT.M) (by show t.F.length ≤ 800000; omega) (by omega) (by omega) (by show (m50 - 1).toNat < _; omega)) ?_
         rintro _ h65 ⟨rfl, S67, G68, M66⟩
         replace M66 : Mem _ _ (S67 :: [(p1, _)] :: [(p4, _)] :: L) _ := M66
         refine WS.eqlN (a := (putK (⟨t.F, t.K, t.M, (m50 - 1).toNat⟩ : KS) k45 k47 m68).2) (b := 0) rfl rfl rfl (fun e70 => ?_) (fun e70 => ?_)
         ·
          refine C rfl rfl ?_
          refine WS.st1 (M66.focus 2 rfl) [_] [_] rfl rfl rfl rfl rfl (D rfl) (D rfl) rfl rfl ?_
          intro h69 M70
          replace M70 : Mem _ _ ([(p4, _)] :: S67 :: [(p1, _)] :: L) _ := M70
          refine J [(0, _), (5, _), (6, _), (7, _), (10, _), (11, _), (12, _)] rfl ?_
          refine WC.run (C rfl rfl (WS.opV (.int .u64 (((n - 1) : Nat) : Int)) rfl rfl (sub_u64 (a := n) (b := 1) (by have := hn64; omega)) (C rfl rfl (J [(0, _), (5, _), (6, _), (7, _), (10, _), (11, _), (12, _)] rfl ?_))))
          refine ⟨(S67, (putK (⟨t.F, t.K, t.M, (m50 - 1).toNat⟩ : KS) k45 k47 m68).1, _, _, n - 1), rfl, ⟨(((M70.focus 0 rfl).focus 2 rfl).focus 2 rfl), ?_⟩, ?_⟩
          · have gw := (put_grow (s := (⟨t.F, t.K, t.M, (m50 - 1).toNat⟩ : KS)) (key := k45) (val := k47) (ls := m68) ⟨hT.srt, hT.len, hT.sz, hT.K, hT.M⟩).1; have c50 := C50 rfl; have gw2 : (putK (⟨t.F, t.K, t.M, (m50 - 1).toNat⟩ : KS) k45 k47 m68).1.F.length ≤ t.F.length + 1 := gw; exact ⟨G68, (put_ok (KOk.mk hT.srt hT.len hT.sz hT.K hT.M)), by omega, by omega, by omega, put_vn hvn (by show (m50 - 1).toNat < _; omega) hm34, fun T0 g e => by obtain ⟨x1, x2, x3⟩ := hstep T0 g e; obtain ⟨x4, x5⟩ := x3 m68 s68 w68 R68; first | exact x5 | exact absurd x4 e70⟩
          · simp only []; omega
         ·
          refine C rfl rfl ?_
          refine WS.st1 (M66.focus 2 rfl) [_] [_] rfl rfl rfl rfl rfl (D rfl) (D rfl) rfl rfl ?_
          intro h71 M72
          replace M72 : Mem _ _ ([(p4, _)] :: S67 :: [(p1, _)] :: L) _ := M72
          refine J [(0, _), (5, _), (6, _), (7, _), (10, _), (11, _), (12, _)] rfl ?_
          refine WC.run (C rfl rfl (WS.opV (.int .u64 (((n - 1) : Nat) : Int)) rfl rfl (sub_u64 (a := n) (b := 1) (by have := hn64; omega)) (C rfl rfl (J [(0, _), (5, _), (6, _), (7, _), (10, _), (11, _), (12, _)] rfl ?_))))
          refine ⟨(S67, (putK (⟨t.F, t.K, t.M, (m50 - 1).toNat⟩ : KS) k45 k47 m68).1, _, _, n - 1), rfl, ⟨(((M72.focus 0 rfl).focus 2 rfl).focus 2 rfl), ?_⟩, ?_⟩
          · have gw := (put_grow (s := (⟨t.F, t.K, t.M, (m50 - 1).toNat⟩ : KS)) (key := k45) (val := k47) (ls := m68) ⟨hT.srt, hT.len, hT.sz, hT.K, hT.M⟩).1; have c50 := C50 rfl; have gw2 : (putK (⟨t.F, t.K, t.M, (m50 - 1).toNat⟩ : KS) k45 k47 m68).1.F.length ≤ t.F.length + 1 := gw; exact ⟨G68, (put_ok (KOk.mk hT.srt hT.len hT.sz hT.K hT.M)), by omega, by omega, by omega, put_vn hvn (by show (m50 - 1).toNat < _; omega) hm34, fun T0 g e => by obtain ⟨x1, x2, x3⟩ := hstep T0 g e; obtain ⟨x4, x5⟩ := x3 m68 s68 w68 R68; first | exact x5 | exact absurd x4 e70⟩
          · simp only []; omega
        ·
         refine C rfl rfl (C rfl rfl (WS.off rfl (WS.off rfl (WS.off rfl (WS.off rfl (WS.offC rfl (WS.offC rfl (WS.off rfl (C rfl rfl ?_)))))))))
         refine WS.st1 (M54.focus 3 rfl) [_] [_] rfl rfl rfl rfl rfl (D rfl) (D rfl) rfl rfl ?_
         intro h73 M74
         replace M74 : Mem _ _ ([(p4, _)] :: [(x32, _)] :: Sp47 :: [(p1, _)] :: L) _ := M74
         refine J [(0, _), (5, _), (6, _), (7, _), (10, _), (11, _), (12, _)] rfl ?_
         refine WC.run ?_
         obtain ⟨S75, K76, M77⟩ := KvSt.shut G49 hI50 hF51 rfl ((((M74.focus 3 rfl).focus 1 rfl).focus 3 rfl).focus 3 rfl)
         refine C rfl rfl (WS.opV (.int .u64 (((n - 1) : Nat) : Int)) rfl rfl (sub_u64 (a := n) (b := 1) (by have := hn64; omega)) (C rfl rfl (J [(0, _), (5, _), (6, _), (7, _), (10, _), (11, _), (12, _)] rfl ?_)))
         refine ⟨(S75, (⟨t.F, t.K, t.M, (m50 - 1).toNat⟩ : KS), _, _, n - 1), rfl, ⟨(((M77.focus 1 rfl).focus 2 rfl).focus 2 rfl), ?_⟩, ?_⟩
         · exact ⟨K76, ⟨hT.srt, hT.len, hT.sz, hT.K, hT.M⟩, by omega, by omega, by show t.F.length + _ ≤ _; omega, hvn, fun T0 g e => by obtain ⟨x1, x2, x3⟩ := hstep T0 g e; first | exact absurd x1 (by decide) | (exfalso; omega)⟩
         · simp only []; omega
     ·
      refine C rfl rfl (WS.off rfl (C rfl rfl (J [(0, _), (5, _), (6, _), (7, _), (10, _), (11, _), (12, _), (41, _)] rfl ?_)))
      refine WC.condF rfl (WC.exit ?_)
      refine WC.seq (WC.run (C rfl rfl (C rfl rfl ?_)))
      obtain ⟨p78, Sp79, LL80, G81, hI82, hF83, MO84⟩ := KvSt.open2 G_ (M27.bare.focus 0 rfl)
      refine C rfl rfl (C rfl rfl ?_)
      refine WS.st1 (MO84.focus 0 rfl) [_] [_, _, _, _, _] rfl rfl rfl rfl rfl (D rfl) (D rfl) rfl rfl ?_
      intro h85 M86
      replace M86 : Mem _ _ ([(x32, _)] :: Sp79 :: [(p1, _)] :: [(p4, _)] :: L) _ := M86
      refine J [(0, _), (5, _), (10, _)] rfl ?_
      refine WC.seq (WC.seq (WC.run ?_))
      obtain ⟨S87, K88, M89⟩ := KvSt.shut G81 hI82 hF83 rfl M86
      refine C rfl (op_ld (M89.at 2 rfl) rfl rfl) ?_
      cases w_
      ·
       refine WS.opV (.bool true) rfl rfl rfl (C rfl rfl (WS.off rfl (WS.offC rfl (WS.off rfl (WS.off rfl (C rfl rfl (J [(10, _), (83, _)] rfl ?_)))))))
       refine WC.condT rfl (WC.seq (WC.run (C rfl rfl (C rfl rfl (J [(2, _), (3, _)] rfl ?_)))))
       refine WC.ret (⟨[_, _], (res_tmp rfl (res_tmp rfl res_nil)), ?_⟩)
       exact .inr ⟨rfl, fun T0 g e => by first | (have q := (hP T0 g e).1; first | exact absurd q (by decide) | (rw [show w_ = false by assumption] at q; cases q)) | (have q := hP T0 g e; rw [show n = 0 by omega] at q; have q2 := (rd_end q).2; rw [← q2] at e; exact e82 e), (((((M89.focus 0 rfl).drop).focus 0 rfl).drop).focus 0 rfl).drop⟩
      ·
       refine WS.opV (.bool false) rfl rfl rfl (C rfl rfl (C rfl rfl ?_))
       refine WS.call rfl rfl rfl (kWrite_st  K88 (M89.bare.focus 0 rfl) (KOk.mk hT.srt hT.len hT.sz hT.K hT.M) (by show t.F.length ≤ 800000; omega) (Nat.lt_of_lt_of_le m34.toNat_lt (by decide))) ?_
       rintro _ h90 ⟨rfl, S92, G93, M91⟩
       replace M91 : Mem _ _ (S92 :: [(p1, _)] :: [(p4, _)] :: L) _ := M91
       refine C rfl rfl ?_
       refine WS.sneq (l := (wrK (⟨t.F, t.K, t.M, m34.toNat⟩ : KS))) (m := s) rfl rfl rfl (fun e82 => ?_) (fun e82 => ?_)
       ·
        refine C rfl rfl (J [(10, _), (83, _)] rfl ?_)
        refine WC.condT rfl (WC.seq (WC.run (C rfl rfl (C rfl rfl (J [(2, _), (3, _)] rfl ?_)))))
        refine WC.ret (⟨[_, _], (res_tmp rfl (res_tmp rfl res_nil)), ?_⟩)
        exact .inr ⟨rfl, fun T0 g e => by first | (have q := (hP T0 g e).1; first | exact absurd q (by decide) | (rw [show w_ = false by assumption] at q; cases q)) | (have q := hP T0 g e; rw [show n = 0 by omega] at q; have q2 := (rd_end q).2; rw [← q2] at e; exact e82 e), (((((M91.focus 0 rfl).drop).focus 0 rfl).drop).focus 0 rfl).drop⟩
       ·
        refine C rfl rfl (J [(10, _), (83, _)] rfl ?_)
        refine WC.condF rfl (WC.skip (WC.seq (WC.run (C rfl rfl (C rfl rfl (C rfl rfl (J [(2, _), (3, _)] rfl ?_)))))))
        refine WC.ret (⟨[_, _], (res_tmp rfl (res_tmp rfl res_nil)), ?_⟩)
        exact .inl ⟨_, (⟨t.F, t.K, t.M, m34.toNat⟩ : KS), _, rfl, ⟨⟨hT.srt, hT.len, hT.sz, hT.K, hT.M⟩, hvn, m34.toNat_lt⟩, e82, fun T0 g e => by have q := hP T0 g e; rw [show n = 0 by omega] at q; exact (rd_end q).2, G93, (((M91.focus 1 rfl).drop).focus 1 rfl).drop⟩
end Go.Proofs.Ytkfjlbdedjoojaa.Wt
