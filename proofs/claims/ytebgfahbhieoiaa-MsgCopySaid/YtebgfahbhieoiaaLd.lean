/- The statements of chapter 05 on copies, walked. -/
import Derived.Test.YtebgfahbhieoiaaLa
namespace Go.Proofs.Ytebgfahbhieoiaa.Wt
open Go Go.Proofs.Ytebgfahbhieoiaa.Am Go.Proofs.Ytebgfahbhieoiaa.IrAll
set_option linter.unusedVariables false
set_option linter.unusedSimpArgs false
variable {h : H}
theorem msg_Copy_ran (W : Mem h h [] []) {m : Msg} {V : Value} (A : KEnt.Sl h V m.es) (hl : m.es.length ≤ 1000000) : Cll tab0 20 [m.val V] h (fun v h2 => ∃ p, v = m.val (.slice (some ⟨p, 0, none⟩) m.es.length (2 * m.es.length + 1)) ∧ Mem h h2 [[(p, ⟨KEnt.flat m.es, 13, false⟩)]] []) := by
  obtain ⟨P, c, rfl⟩ := A.shape
  refine Cll.code rfl rfl ?_
  refine WC.env [(0, _)] rfl ?_
  refine WC.seq ?_
  refine WC.run ?_
  refine WS.box W [_, _, _, _, _, _, _, _, _, _, _, _, _] rfl rfl rfl rfl ?_
  intro p1 h2 M3
  refine WS.new M3 rfl ?_
  intro p4 h5 M6
  refine WS.nil [(1, _), (2, _)] rfl ?_
  refine WC.seq ?_
  refine WC.run ?_
  refine WS.op rfl rfl (WS.op rfl (op_ld (M6.at 1 rfl) rfl rfl) (WS.op rfl (op_lenVS A rfl) ?_))
  refine WS.mkS ((m.es).length) ((m.es).length) M6 rfl rfl rfl (by omega) (by omega) (by omega) ?_
  intro p7 h8 M9
  refine WS.op rfl rfl (WS.nil [(1, _), (2, _), (3, _)] rfl ?_)
  refine WC.seq ?_
  refine WC.run ?_
  refine WS.op rfl rfl (WS.op rfl rfl (WS.op rfl (op_ld (M9.at 2 rfl) rfl rfl) ?_))
  refine WS.cpyA (K := KEnt) (M9.focus 0 rfl) (A.mono M9.sub) rfl rfl rfl rfl rfl (by rw [zrep_length]; rfl) ?_
  intro h10 M11
  replace M11 : Mem _ _ ([(p7, _)] :: [(p4, _)] :: [(p1, _)] :: []) _ := M11
  refine WS.nil [(1, _), (2, _), (3, _)] rfl ?_
  refine WC.seq ?_
  refine WC.run ?_
  refine WS.op rfl rfl (WS.op rfl rfl ?_)
  refine WS.st1 (M11.focus 2 rfl) [_] [_, _, _, _, _, _, _, _, _, _, _, _, _] rfl rfl rfl rfl rfl (Nat.le_of_ble_eq_true rfl) (Nat.le_of_ble_eq_true rfl) rfl rfl ?_
  intro h12 M13
  replace M13 : Mem _ _ ([(p1, _)] :: [(p7, _)] :: [(p4, _)] :: []) _ := M13
  refine WS.nil [(1, _), (2, _)] rfl ?_
  refine WC.seq ?_
  refine WC.run ?_
  refine WS.op rfl (op_lds [_, _, _, _, _, _, _, _, _, _, _, _, _] (M13.at 0 rfl) rfl (Nat.le_of_ble_eq_true rfl) rfl) ?_
  refine WS.st1 (M13.focus 2 rfl) [_, _, _, _, _, _, _, _, _, _, _, _, _] [_, _, _, _, _, _, _, _, _, _, _, _, _] rfl rfl rfl rfl rfl (Nat.le_of_ble_eq_true rfl) (Nat.le_of_ble_eq_true rfl) rfl rfl ?_
  intro h14 M15
  replace M15 : Mem _ _ ([(p4, _)] :: [(p1, _)] :: [(p7, _)] :: []) _ := M15
  refine WS.nil [(2, _)] rfl ?_
  refine WC.ret ?_
  refine ⟨[_], (res_cellN [_, _, _, _, _, _, _, _, _, _, _, _, _] rfl (M15.at 0 rfl) (Nat.le_of_ble_eq_true rfl) rfl res_nil), ?_⟩
  exact ⟨p7, rfl, ((M15.bare.focus 2 rfl).take 1)⟩
/-- A row of which the first i are changed. -/
def InvB {α : Type} (f : α → α) (l l' : List α) (i : Nat) : Prop := l'.length = l.length ∧ ∀ j, l'[j]? = if j < i then (l[j]?).map f else l[j]?
theorem InvB_zero {α : Type} (f : α → α) (l : List α) : InvB f l l 0 := ⟨rfl, fun j => by rw [if_neg (by omega)]⟩
theorem InvB_step {α : Type} {f : α → α} {l l' : List α} {i : Nat} {y z : α} (h : InvB f l l' i) (hy : l'[i]? = some y) (hz : f y = z) : InvB f l (l'.set i z) (i + 1) := by
  obtain ⟨h1, h2⟩ := h
  have hi := (List.getElem?_eq_some_iff.1 hy).1
  have hy2 := h2 i
  rw [if_neg (by omega), hy] at hy2
  refine ⟨by simp [h1], fun j => ?_⟩
  rw [List.getElem?_set]
  by_cases e : i = j
  · subst e; rw [if_pos rfl, if_pos hi, if_pos (by omega), ← hy2]; simp [hz]
  · rw [if_neg e, h2 j]
    by_cases q : j < i
    · rw [if_pos q, if_pos (by omega)]
    · rw [if_neg q, if_neg (by omega)]
theorem set_self_ {α : Type} {l : List α} {i : Nat} {y : α} (hy : l[i]? = some y) : l.set i y = l := by
  apply List.ext_getElem?
  intro j
  rw [List.getElem?_set]
  split
  · rename_i e; subst e; rw [if_pos (List.getElem?_eq_some_iff.1 hy).1, hy]
  · rfl
theorem InvB_skip {α : Type} {f : α → α} {l l' : List α} {i : Nat} {y : α} (h : InvB f l l' i) (hy : l'[i]? = some y) (hz : f y = y) : InvB f l l' (i + 1) := by
  have := InvB_step h hy hz
  rwa [set_self_ hy] at this
theorem InvB_end {α : Type} {f : α → α} {l l' : List α} {i : Nat} (h : InvB f l l' i) (hi : l.length ≤ i) : l' = l.map f := by
  apply List.ext_getElem?
  intro j
  rw [h.2 j, List.getElem?_map]
  by_cases q : j < i
  · rw [if_pos q]
  · rw [if_neg q, List.getElem?_eq_none (by omega)]; rfl
def bod (o : List UInt8) (e : Ent) : Ent := if e.kd.toNat = 3 then { e with body := o } else e
theorem bod_right (o : List UInt8) (e : Ent) : RightE (bod o e) ↔ RightE e := by
  unfold bod
  by_cases c : e.kd.toNat = 3
  · rw [if_pos c]; unfold RightE; simp only; rw [if_pos c, if_pos c]
  · rw [if_neg c]
theorem bod_all (o : List UInt8) (es : List Ent) : AllR (es.map (bod o)) ↔ AllR es := by
  constructor
  · intro h e he; exact (bod_right o e).1 (h _ (List.mem_map_of_mem he))
  · intro h e he
    obtain ⟨x, hx, rfl⟩ := List.mem_map.1 he
    exact (bod_right o x).2 (h x hx)
theorem bod_small {o : List UInt8} {es : List Ent} (ho : o.length ≤ 268435456) (h : Small es) : Small (es.map (bod o)) := by
  intro e he
  obtain ⟨x, hx, rfl⟩ := List.mem_map.1 he
  unfold bod
  split
  · exact ho
  · exact h x hx
theorem bodM {m : Msg} {o t : List UInt8} {es : List Ent} (he : es = m.es.map (bod o)) : rightMB ⟨m.kd, m.fr, m.to, m.tm, m.ix, m.lt, m.cm, m.rd, m.ok, m.mb, m.se, es, t⟩ = rightMB m := by
  subst he
  unfold rightMB
  rw [decide_eq_decide]
  unfold RightM
  simp only [List.length_map, bod_all]
theorem wr_nil (m : Msg) : writeM m = [] ↔ rightMB m = false := by
  cases q : rightMB m with
  | true => rw [writeM_t q, encM_eq]; simp
  | false => rw [writeM_f q]; simp
set_option maxRecDepth 4000 in
theorem law_MsgBodies (W : Mem h h [] []) {m : Msg} {one oth : List UInt8} {a0 : List Value} {u1 u2 : Value} (l0 : ∃ V, a0 = Msg.cells m V ∧ SlL (fun _ y cs => cs = KEnt.cells y) 13 h V m.es) (l1 : layStr h one [u1]) (l2 : layStr h oth [u2])
    (k0 : m.body.length < 9223372036854775808 ∧ m.es.length < 9223372036854775808) (k1 : one.length < 9223372036854775808) (k2 : oth.length < 9223372036854775808) : Cll tab0 7 [.agg a0.toArray, u1, u2] h (fun v _ => v = .bool true) := by
  obtain ⟨V0, rfl, S0⟩ := l0
  have A : KEnt.Sl h V0 m.es := SlL.sl S0
  obtain ⟨P, c, rfl⟩ := A.shape
  have l1 : [u1] = [_] := l1
  have l2 : [u2] = [_] := l2
  cases l1; cases l2
  refine Cll.code rfl rfl ?_
  refine WC.env [(0, _), (1, _), (2, _)] rfl ?_
  refine WC.seq ?_
  refine WC.run ?_
  refine WS.box W [_, _, _, _, _, _, _, _, _, _, _, _, _] rfl rfl rfl rfl ?_
  intro p1 h2 M3
  refine WS.op rfl rfl (WS.nil [(1, _), (2, _), (3, _)] rfl ?_)
  refine WC.seq ?_
  refine WC.seq ?_
  obtain ⟨L4, eL6, M5⟩ := Mem.name M3.bare
  refine WC.joinB (base := h) (fun b => [(1, (.string (bs one))), (2, (.string (bs oth))), (3, (.pointer (some ⟨p1, 0, none⟩))), (20, .bool b)]) L4 (True) ((Small m.es ∧ m.es.length ≤ 40 ∧ m.body.length ≤ 6000 ∧ ∀ x ∈ m.es, x.body.length ≤ 6000) ∧ one.length ≤ 3000 ∧ oth.length ≤ 3000) ?_ ?_ ?_
  · subst eL6
    refine WS.op rfl (op_lds [_, _, _, _, _, _, _, _, _, _, _, _, _] (M5.at 0 rfl) rfl (Nat.le_of_ble_eq_true rfl) rfl) ?_
    refine WS.call rfl rfl rfl (great_ran M5.here (m := m) (A.mono M5.sub) (by exact k0)) ?_
    rintro _ h7 ⟨⟨g10, rfl, hg10⟩, N8⟩
    have M9 := M5.trans N8
    refine WS.op rfl rfl ?_
    cases hb1 : g10
    · skip
      refine WS.op rfl rfl (WS.op rfl (op_lenS (l := one) rfl) ?_)
      refine WS.gtrN (a := (one).length) (b := 3000) rfl rfl rfl (fun e14 => ?_) (fun e14 => ?_)
      · skip
        refine WS.op rfl rfl (WS.op rfl rfl (WS.off rfl (WS.off rfl (WS.off rfl (WS.op rfl rfl ?_)))))
        refine WS.nil' ⟨true, rfl, ((M9.bare.focus 0 rfl).take 1), fun _ => ?_, fun hh => ?_⟩
        · trivial
        · cases hh
      · skip
        refine WS.op rfl rfl (WS.op rfl rfl (WS.op rfl rfl (WS.op rfl (op_lenS (l := oth) rfl) ?_)))
        refine WS.gtrN (a := (oth).length) (b := 3000) rfl rfl rfl (fun e19 => ?_) (fun e19 => ?_)
        · skip
          refine WS.op rfl rfl ?_
          refine WS.nil' ⟨true, rfl, ((M9.bare.focus 0 rfl).take 1), fun _ => ?_, fun hh => ?_⟩
          · trivial
          · cases hh
        · skip
          refine WS.op rfl rfl ?_
          refine WS.nil' ⟨false, rfl, ((M9.bare.focus 0 rfl).take 1), fun hh => ?_, fun _ => ?_⟩
          · cases hh
          · exact ⟨hg10 (by first | assumption | rfl), by omega, by omega⟩
    · skip
      refine WS.off rfl (WS.off rfl (WS.off rfl (WS.op rfl rfl (WS.op rfl rfl (WS.off rfl (WS.off rfl (WS.off rfl (WS.op rfl rfl ?_))))))))
      refine WS.nil' ⟨true, rfl, ((M9.bare.focus 0 rfl).take 1), fun _ => ?_, fun hh => ?_⟩
      · trivial
      · cases hh
  · intro h10 M11 hp20
    subst eL6
    refine WC.condT rfl ?_
    refine WC.seq ?_
    refine WC.run ?_
    refine WS.call rfl rfl rfl (awake_ran M11.here ) ?_
    rintro _ h12 ⟨rfl, N13⟩
    have M14 := M11.trans N13
    refine WS.op rfl rfl (WS.nil [(6, _)] rfl ?_)
    refine WC.ret ?_
    refine ⟨[_], (res_tmp rfl res_nil), ?_⟩
    rfl
  · intro h15 M16 hp20
    subst eL6
    refine WC.condF rfl ?_
    refine WC.skip ?_
    refine WC.seq ?_
    refine WC.run ?_
    refine WS.op rfl (op_lds [_, _, _, _, _, _, _, _, _, _, _, _, _] (M16.at 0 rfl) rfl (Nat.le_of_ble_eq_true rfl) rfl) ?_
    obtain ⟨⟨hz1, hz2, hz3, hz4⟩, hz5, hz6⟩ := hp20
    refine WS.call rfl rfl rfl (msg_Copy_ran M16.here (m := m) (A.mono M16.sub) (by omega)) ?_
    rintro _ h17 ⟨p20, rfl, N18⟩
    have M19 := M16.trans N18
    replace M19 : Mem _ _ ([(p20, _)] :: _) _ := M19
    refine WS.new M19 rfl ?_
    intro p21 h22 M23
    refine WS.st1 (M23.focus 0 rfl) [_, _, _, _, _, _, _, _, _, _, _, _, _] [_, _, _, _, _, _, _, _, _, _, _, _, _] rfl rfl rfl rfl rfl (Nat.le_of_ble_eq_true rfl) (Nat.le_of_ble_eq_true rfl) rfl rfl ?_
    intro h24 M25
    replace M25 : Mem _ _ ([(p21, _)] :: [(p20, _)] :: [(p1, _)] :: []) _ := M25
    refine WS.nil [(1, _), (2, _), (3, _), (7, _)] rfl ?_
    refine WC.seq ?_
    refine WC.run ?_
    refine WS.op rfl rfl (WS.op rfl rfl ?_)
    refine WS.st1 (M25.focus 0 rfl) [_] [_, _, _, _, _, _, _, _, _, _, _, _, _] rfl rfl rfl rfl rfl (Nat.le_of_ble_eq_true rfl) (Nat.le_of_ble_eq_true rfl) rfl rfl ?_
    intro h26 M27
    replace M27 : Mem _ _ ([(p21, _)] :: [(p20, _)] :: [(p1, _)] :: []) _ := M27
    refine WS.nil [(2, _), (3, _), (7, _)] rfl ?_
    refine WC.seq ?_
    refine WC.seq ?_
    refine WC.run ?_
    refine WS.op rfl rfl (WS.nil [(2, _), (3, _), (7, _), (8, _)] rfl ?_)
    refine WC.block ?_
    obtain ⟨L28, eL30, M29⟩ := Mem.name1 (M27.bare.focus 1 rfl)
    refine WC.loop (σ := List Ent × Nat) (fun ((es2, i)) => [(2, (.string (bs oth))), (3, (.pointer (some ⟨p1, 0, none⟩))), (7, (.pointer (some ⟨p21, 0, none⟩))), (8, (.int .i64 ((i : Nat) : Int)))]) (fun ((es2, i)) hh => Mem h hh ([(p20, ⟨KEnt.flat es2, 13, false⟩)] :: L28) [] ∧ InvB (bod oth) m.es es2 i ∧ i ≤ m.es.length) (fun ((es2, i)) => m.es.length - i) (m.es, 0) rfl ⟨(by exact M29), ?_⟩ ?_
    · exact ⟨InvB_zero _ _, by omega⟩
    · rintro ⟨es2, i⟩ h31 ⟨M32, ⟨hI, hi1⟩⟩
      subst eL30
      refine WC.env [(2, _), (3, _), (7, _), (8, _)] rfl ?_
      refine WC.seq ?_
      refine WC.seq ?_
      refine WC.run ?_
      refine WS.op rfl rfl (WS.op rfl rfl (WS.op rfl (op_ld (M32.at 1 rfl) rfl rfl) (WS.op rfl rfl ?_)))
      refine WS.lssN (a := i) (b := (m.es).length) rfl rfl rfl (fun e30 => ?_) (fun e30 => ?_)
      · skip
        refine WS.nil [(2, _), (3, _), (7, _), (8, _), (30, _)] rfl ?_
        refine WC.condT rfl ?_
        refine WC.skip ?_
        refine WC.seq ?_
        refine WC.block ?_
        refine WC.seq ?_
        refine WC.run ?_
        refine WS.op rfl rfl (WS.op rfl (op_ld (M32.at 1 rfl) rfl rfl) (WS.op rfl rfl ?_))
        obtain ⟨y36, hy36⟩ : ∃ y, (es2)[i]? = some y := ⟨_, List.getElem?_eq_getElem (show i < (es2).length by have := hI.1; omega)⟩
        refine WS.op rfl (op_iaV2 i rfl rfl (by have := hI.1; omega)) (WS.op rfl rfl (WS.op rfl (op_ldH rfl (Row.ld (K := KEnt) (k := 2) (M32.at 0 rfl) hy36 rfl)) ?_))
        refine WS.eqlN (a := (y36.kd).toNat) (b := 3) rfl rfl rfl (fun e39 => ?_) (fun e39 => ?_)
        · skip
          refine WS.nil [(2, _), (3, _), (7, _), (8, _), (39, _)] rfl ?_
          refine WC.condT rfl ?_
          refine WC.run ?_
          refine WS.op rfl rfl (WS.op rfl (op_ld (M32.at 1 rfl) rfl rfl) (WS.op rfl rfl (WS.op rfl rfl ?_)))
          obtain ⟨y44, hy44⟩ : ∃ y, (es2)[i]? = some y := ⟨_, List.getElem?_eq_getElem (show i < (es2).length by have := hI.1; omega)⟩
          refine WS.op rfl (op_iaV2 i rfl rfl (by have := hI.1; omega)) (WS.op rfl rfl ?_)
          refine WS.stE (K := KEnt) (y' := { y44 with body := oth }) (M32.focus 0 rfl) hy44 (by decide) rfl rfl rfl rfl rfl rfl ?_
          intro h33 M34
          replace M34 : Mem _ _ ([(p20, _)] :: [(p21, _)] :: [(p1, _)] :: []) _ := M34
          refine WS.nil [(2, _), (3, _), (7, _), (8, _)] rfl ?_
          refine WC.run ?_
          refine WS.op rfl rfl (WS.opV (.int .i64 (((i + 1) : Nat) : Int)) rfl rfl (add_i64 (a := i) (b := 1) (by omega)) (WS.op rfl rfl (WS.nil [(2, _), (3, _), (7, _), (8, _)] rfl ?_)))
          refine ⟨((es2.set i { y44 with body := oth }), i + 1), rfl, ⟨((((M34.bare.focus 2 rfl).focus 2 rfl).focus 2 rfl).take 3), ?_⟩, ?_⟩
          · exact ⟨InvB_step hI hy44 (by have e := hy36.symm.trans hy44; cases e; unfold bod; rw [if_pos (by assumption)]), by omega⟩
          · simp only []; omega
        · skip
          refine WS.nil [(2, _), (3, _), (7, _), (8, _), (39, _)] rfl ?_
          refine WC.condF rfl ?_
          refine WC.skip ?_
          refine WC.run ?_
          refine WS.op rfl rfl (WS.opV (.int .i64 (((i + 1) : Nat) : Int)) rfl rfl (add_i64 (a := i) (b := 1) (by omega)) (WS.op rfl rfl (WS.nil [(2, _), (3, _), (7, _), (8, _)] rfl ?_)))
          refine ⟨(es2, i + 1), rfl, ⟨((((M32.bare.focus 2 rfl).focus 2 rfl).focus 2 rfl).take 3), ?_⟩, ?_⟩
          · exact ⟨InvB_skip hI hy36 (by unfold bod; rw [if_neg (by assumption)]), by omega⟩
          · simp only []; omega
      · skip
        refine WS.nil [(2, _), (3, _), (7, _), (8, _), (30, _)] rfl ?_
        refine WC.condF rfl ?_
        refine WC.exit ?_
        refine WC.seq ?_
        refine WC.draw M32 [] rfl ?_
        intro rb35 h36 M37
        refine WS.op rfl (op_lds [_, _, _, _, _, _, _, _, _, _, _, _, _] (M37.at 1 rfl) rfl (Nat.le_of_ble_eq_true rfl) rfl) (WS.op rfl (op_lds [_, _, _, _, _, _, _, _, _, _, _, _, _] (M37.at 2 rfl) rfl (Nat.le_of_ble_eq_true rfl) rfl) ?_)
        have hes := InvB_end hI (by omega)
        have hbm := bodM (m := m) (t := one) hes
        have hbs : Small es2 := by rw [hes]; exact bod_small (by omega) hz1
        refine WS.call rfl rfl rfl (msg_Right_ran M37.here (m := (⟨m.kd, m.fr, m.to, m.tm, m.ix, m.lt, m.cm, m.rd, m.ok, m.mb, m.se, es2, one⟩ : Msg)) (by have q_ := Row.Sl.own (K := KEnt) (l := es2) (c := (2 * (m.es).length + 1)) (M37.at 0 rfl); rw [hI.1] at q_; exact q_) (by exact ⟨hbs, by dsimp only; have := hI.1; omega, by dsimp only; omega⟩)) ?_
        rintro _ h38 ⟨rfl, N39⟩
        have M40 := M37.trans N39
        refine WS.chk rfl (op_lds [_, _, _, _, _, _, _, _, _, _, _, _, _] (M40.at 2 rfl) rfl (Nat.le_of_ble_eq_true rfl) rfl) rfl (same_agg rfl) ?_
        refine WS.call rfl rfl rfl (msg_Right_ran M40.here (m := m) (A.mono M40.sub) (by exact ⟨hz1, by omega, by omega⟩)) ?_
        rintro _ h41 ⟨rfl, N42⟩
        have M43 := M40.trans N42
        cases hb2 : (rightMB (⟨m.kd, m.fr, m.to, m.tm, m.ix, m.lt, m.cm, m.rd, m.ok, m.mb, m.se, es2, one⟩ : Msg))
        · skip
          cases hb3 : (rightMB m)
          · skip
            refine WS.opV (.bool true) rfl rfl rfl (WS.op rfl rfl (WS.op rfl (op_lds [_, _, _, _, _, _, _, _, _, _, _, _, _] (M43.at 1 rfl) rfl (Nat.le_of_ble_eq_true rfl) rfl) (WS.op rfl (op_lds [_, _, _, _, _, _, _, _, _, _, _, _, _] (M43.at 2 rfl) rfl (Nat.le_of_ble_eq_true rfl) rfl) ?_)))
            refine WS.call rfl rfl rfl (msg_Write_ran M43.here (m := (⟨m.kd, m.fr, m.to, m.tm, m.ix, m.lt, m.cm, m.rd, m.ok, m.mb, m.se, es2, one⟩ : Msg)) (by have q_ := Row.Sl.own (K := KEnt) (l := es2) (c := (2 * (m.es).length + 1)) (M43.at 0 rfl); rw [hI.1] at q_; exact q_) (by exact ⟨hbs, by dsimp only; have := hI.1; omega, by dsimp only; omega⟩)) ?_
            rintro _ h44 ⟨rfl, N45⟩
            have M46 := M43.trans N45
            refine WS.chk rfl (op_lds [_, _, _, _, _, _, _, _, _, _, _, _, _] (M46.at 2 rfl) rfl (Nat.le_of_ble_eq_true rfl) rfl) rfl (same_agg rfl) ?_
            refine WS.seql (l := (writeM (⟨m.kd, m.fr, m.to, m.tm, m.ix, m.lt, m.cm, m.rd, m.ok, m.mb, m.se, es2, one⟩ : Msg))) (m := []) rfl rfl rfl (fun e54 => ?_) (fun e54 => ?_)
            · skip
              refine WS.call rfl rfl rfl (msg_Write_ran M46.here (m := m) (A.mono M46.sub) (by exact ⟨hz1, by omega, by omega⟩)) ?_
              rintro _ h47 ⟨rfl, N48⟩
              have M49 := M46.trans N48
              refine WS.seql (l := (writeM m)) (m := []) rfl rfl rfl (fun e57 => ?_) (fun e57 => ?_)
              · skip
                refine WS.opV (.bool true) rfl rfl rfl (WS.op rfl rfl (WS.op rfl rfl ?_))
                refine WS.call rfl rfl rfl (awake_ran M49.here ) ?_
                rintro _ h50 ⟨rfl, N51⟩
                have M52 := M49.trans N51
                refine WS.op rfl rfl (WS.op rfl rfl (WS.nil [(6, _)] rfl ?_))
                refine WC.ret ?_
                refine ⟨[_], (res_tmp rfl res_nil), ?_⟩
                rfl
              · skip
                refine WS.opV (.bool false) rfl rfl rfl (WS.op rfl rfl (WS.op rfl rfl (WS.offC rfl (WS.op rfl rfl (WS.op rfl rfl (WS.nil [(6, _)] rfl ?_))))))
                refine WC.ret ?_
                refine ⟨[_], (res_tmp rfl res_nil), ?_⟩
                exfalso; first | (rw [hb2, hb3] at hbm; cases hbm; done) | (have w1 := wr_nil (⟨m.kd, m.fr, m.to, m.tm, m.ix, m.lt, m.cm, m.rd, m.ok, m.mb, m.se, es2, one⟩ : Msg); have w2 := wr_nil m; rw [hbm] at w1; exact absurd (w2.2 (w1.1 e54)) e57) | (have w1 := wr_nil (⟨m.kd, m.fr, m.to, m.tm, m.ix, m.lt, m.cm, m.rd, m.ok, m.mb, m.se, es2, one⟩ : Msg); have w2 := wr_nil m; rw [hbm] at w1; exact absurd (w1.2 (w2.1 e57)) e54)
            · skip
              refine WS.call rfl rfl rfl (msg_Write_ran M46.here (m := m) (A.mono M46.sub) (by exact ⟨hz1, by omega, by omega⟩)) ?_
              rintro _ h53 ⟨rfl, N54⟩
              have M55 := M46.trans N54
              refine WS.seql (l := (writeM m)) (m := []) rfl rfl rfl (fun e57 => ?_) (fun e57 => ?_)
              · skip
                refine WS.opV (.bool false) rfl rfl rfl (WS.op rfl rfl (WS.op rfl rfl (WS.offC rfl (WS.op rfl rfl (WS.op rfl rfl (WS.nil [(6, _)] rfl ?_))))))
                refine WC.ret ?_
                refine ⟨[_], (res_tmp rfl res_nil), ?_⟩
                exfalso; first | (rw [hb2, hb3] at hbm; cases hbm; done) | (have w1 := wr_nil (⟨m.kd, m.fr, m.to, m.tm, m.ix, m.lt, m.cm, m.rd, m.ok, m.mb, m.se, es2, one⟩ : Msg); have w2 := wr_nil m; rw [hbm] at w1; exact absurd (w2.2 (w1.1 e54)) e57) | (have w1 := wr_nil (⟨m.kd, m.fr, m.to, m.tm, m.ix, m.lt, m.cm, m.rd, m.ok, m.mb, m.se, es2, one⟩ : Msg); have w2 := wr_nil m; rw [hbm] at w1; exact absurd (w1.2 (w2.1 e57)) e54)
              · skip
                refine WS.opV (.bool true) rfl rfl rfl (WS.op rfl rfl (WS.op rfl rfl ?_))
                refine WS.call rfl rfl rfl (awake_ran M55.here ) ?_
                rintro _ h56 ⟨rfl, N57⟩
                have M58 := M55.trans N57
                refine WS.op rfl rfl (WS.op rfl rfl (WS.nil [(6, _)] rfl ?_))
                refine WC.ret ?_
                refine ⟨[_], (res_tmp rfl res_nil), ?_⟩
                rfl
          · skip
            refine WS.opV (.bool false) rfl rfl rfl (WS.op rfl rfl (WS.off rfl (WS.off rfl (WS.offC rfl (WS.chkOff rfl (WS.off rfl (WS.offC rfl (WS.off rfl (WS.off rfl ?_)))))))))
            refine WS.op rfl rfl (WS.op rfl rfl (WS.offC rfl (WS.op rfl rfl (WS.op rfl rfl (WS.nil [(6, _)] rfl ?_)))))
            refine WC.ret ?_
            refine ⟨[_], (res_tmp rfl res_nil), ?_⟩
            exfalso; first | (rw [hb2, hb3] at hbm; cases hbm; done) | (have w1 := wr_nil (⟨m.kd, m.fr, m.to, m.tm, m.ix, m.lt, m.cm, m.rd, m.ok, m.mb, m.se, es2, one⟩ : Msg); have w2 := wr_nil m; rw [hbm] at w1; exact absurd (w2.2 (w1.1 e54)) e57) | (have w1 := wr_nil (⟨m.kd, m.fr, m.to, m.tm, m.ix, m.lt, m.cm, m.rd, m.ok, m.mb, m.se, es2, one⟩ : Msg); have w2 := wr_nil m; rw [hbm] at w1; exact absurd (w1.2 (w2.1 e57)) e54)
        · skip
          cases hb3 : (rightMB m)
          · skip
            refine WS.opV (.bool false) rfl rfl rfl (WS.op rfl rfl (WS.off rfl (WS.off rfl (WS.offC rfl (WS.chkOff rfl (WS.off rfl (WS.offC rfl (WS.off rfl (WS.off rfl ?_)))))))))
            refine WS.op rfl rfl (WS.op rfl rfl (WS.offC rfl (WS.op rfl rfl (WS.op rfl rfl (WS.nil [(6, _)] rfl ?_)))))
            refine WC.ret ?_
            refine ⟨[_], (res_tmp rfl res_nil), ?_⟩
            exfalso; first | (rw [hb2, hb3] at hbm; cases hbm; done) | (have w1 := wr_nil (⟨m.kd, m.fr, m.to, m.tm, m.ix, m.lt, m.cm, m.rd, m.ok, m.mb, m.se, es2, one⟩ : Msg); have w2 := wr_nil m; rw [hbm] at w1; exact absurd (w2.2 (w1.1 e54)) e57) | (have w1 := wr_nil (⟨m.kd, m.fr, m.to, m.tm, m.ix, m.lt, m.cm, m.rd, m.ok, m.mb, m.se, es2, one⟩ : Msg); have w2 := wr_nil m; rw [hbm] at w1; exact absurd (w1.2 (w2.1 e57)) e54)
          · skip
            refine WS.opV (.bool true) rfl rfl rfl (WS.op rfl rfl (WS.op rfl (op_lds [_, _, _, _, _, _, _, _, _, _, _, _, _] (M43.at 1 rfl) rfl (Nat.le_of_ble_eq_true rfl) rfl) (WS.op rfl (op_lds [_, _, _, _, _, _, _, _, _, _, _, _, _] (M43.at 2 rfl) rfl (Nat.le_of_ble_eq_true rfl) rfl) ?_)))
            refine WS.call rfl rfl rfl (msg_Write_ran M43.here (m := (⟨m.kd, m.fr, m.to, m.tm, m.ix, m.lt, m.cm, m.rd, m.ok, m.mb, m.se, es2, one⟩ : Msg)) (by have q_ := Row.Sl.own (K := KEnt) (l := es2) (c := (2 * (m.es).length + 1)) (M43.at 0 rfl); rw [hI.1] at q_; exact q_) (by exact ⟨hbs, by dsimp only; have := hI.1; omega, by dsimp only; omega⟩)) ?_
            rintro _ h59 ⟨rfl, N60⟩
            have M61 := M43.trans N60
            refine WS.chk rfl (op_lds [_, _, _, _, _, _, _, _, _, _, _, _, _] (M61.at 2 rfl) rfl (Nat.le_of_ble_eq_true rfl) rfl) rfl (same_agg rfl) ?_
            refine WS.seql (l := (writeM (⟨m.kd, m.fr, m.to, m.tm, m.ix, m.lt, m.cm, m.rd, m.ok, m.mb, m.se, es2, one⟩ : Msg))) (m := []) rfl rfl rfl (fun e54 => ?_) (fun e54 => ?_)
            · skip
              refine WS.call rfl rfl rfl (msg_Write_ran M61.here (m := m) (A.mono M61.sub) (by exact ⟨hz1, by omega, by omega⟩)) ?_
              rintro _ h62 ⟨rfl, N63⟩
              have M64 := M61.trans N63
              refine WS.seql (l := (writeM m)) (m := []) rfl rfl rfl (fun e57 => ?_) (fun e57 => ?_)
              · skip
                refine WS.opV (.bool true) rfl rfl rfl (WS.op rfl rfl (WS.op rfl rfl ?_))
                refine WS.call rfl rfl rfl (awake_ran M64.here ) ?_
                rintro _ h65 ⟨rfl, N66⟩
                have M67 := M64.trans N66
                refine WS.op rfl rfl (WS.op rfl rfl (WS.nil [(6, _)] rfl ?_))
                refine WC.ret ?_
                refine ⟨[_], (res_tmp rfl res_nil), ?_⟩
                rfl
              · skip
                refine WS.opV (.bool false) rfl rfl rfl (WS.op rfl rfl (WS.op rfl rfl (WS.offC rfl (WS.op rfl rfl (WS.op rfl rfl (WS.nil [(6, _)] rfl ?_))))))
                refine WC.ret ?_
                refine ⟨[_], (res_tmp rfl res_nil), ?_⟩
                exfalso; first | (rw [hb2, hb3] at hbm; cases hbm; done) | (have w1 := wr_nil (⟨m.kd, m.fr, m.to, m.tm, m.ix, m.lt, m.cm, m.rd, m.ok, m.mb, m.se, es2, one⟩ : Msg); have w2 := wr_nil m; rw [hbm] at w1; exact absurd (w2.2 (w1.1 e54)) e57) | (have w1 := wr_nil (⟨m.kd, m.fr, m.to, m.tm, m.ix, m.lt, m.cm, m.rd, m.ok, m.mb, m.se, es2, one⟩ : Msg); have w2 := wr_nil m; rw [hbm] at w1; exact absurd (w1.2 (w2.1 e57)) e54)
            · skip
              refine WS.call rfl rfl rfl (msg_Write_ran M61.here (m := m) (A.mono M61.sub) (by exact ⟨hz1, by omega, by omega⟩)) ?_
              rintro _ h68 ⟨rfl, N69⟩
              have M70 := M61.trans N69
              refine WS.seql (l := (writeM m)) (m := []) rfl rfl rfl (fun e57 => ?_) (fun e57 => ?_)
              · skip
                refine WS.opV (.bool false) rfl rfl rfl (WS.op rfl rfl (WS.op rfl rfl (WS.offC rfl (WS.op rfl rfl (WS.op rfl rfl (WS.nil [(6, _)] rfl ?_))))))
                refine WC.ret ?_
                refine ⟨[_], (res_tmp rfl res_nil), ?_⟩
                exfalso; first | (rw [hb2, hb3] at hbm; cases hbm; done) | (have w1 := wr_nil (⟨m.kd, m.fr, m.to, m.tm, m.ix, m.lt, m.cm, m.rd, m.ok, m.mb, m.se, es2, one⟩ : Msg); have w2 := wr_nil m; rw [hbm] at w1; exact absurd (w2.2 (w1.1 e54)) e57) | (have w1 := wr_nil (⟨m.kd, m.fr, m.to, m.tm, m.ix, m.lt, m.cm, m.rd, m.ok, m.mb, m.se, es2, one⟩ : Msg); have w2 := wr_nil m; rw [hbm] at w1; exact absurd (w1.2 (w2.1 e57)) e54)
              · skip
                refine WS.opV (.bool true) rfl rfl rfl (WS.op rfl rfl (WS.op rfl rfl ?_))
                refine WS.call rfl rfl rfl (awake_ran M70.here ) ?_
                rintro _ h71 ⟨rfl, N72⟩
                have M73 := M70.trans N72
                refine WS.op rfl rfl (WS.op rfl rfl (WS.nil [(6, _)] rfl ?_))
                refine WC.ret ?_
                refine ⟨[_], (res_tmp rfl res_nil), ?_⟩
                rfl
def bump (e : Ent) : Ent := { e with ix := e.ix + 1 }
theorem bump_ne {l : List Ent} {k : Nat} {y : Ent} (hy : l[k]? = some y) (h : l.map bump = l) : False := by
  have h2 := congrArg (fun z => z[k]?) h
  simp only [List.getElem?_map, hy, Option.map_some, Option.some.injEq] at h2
  have h3 := congrArg (fun e => e.ix.toNat) h2
  simp only [bump, UInt64.toNat_add] at h3
  have : (1 : UInt64).toNat = 1 := rfl
  rw [this] at h3
  have := y.ix.toNat_lt
  omega
theorem take_same {α : Type} {l : List α} {i k : Nat} {x y : α} (hx : l[k]? = some x) (hy : (l.take i)[k]? = some y) : x = y := by
  rw [List.getElem?_take] at hy
  split at hy
  · rw [hx] at hy; cases hy; rfl
  · cases hy
set_option maxRecDepth 4000 in
theorem law_MsgCopy (W : Mem h h [] []) {m : Msg} {a0 : List Value} (l0 : ∃ V, a0 = Msg.cells m V ∧ SlL (fun _ y cs => cs = KEnt.cells y) 13 h V m.es) (k0 : m.body.length < 9223372036854775808 ∧ m.es.length < 9223372036854775808) : Cll tab0 8 [.agg a0.toArray] h (fun v _ => v = .bool true) := by
  obtain ⟨V0, rfl, S0⟩ := l0
  have A : KEnt.Sl h V0 m.es := SlL.sl S0
  obtain ⟨P, c, rfl⟩ := A.shape
  refine Cll.code rfl rfl ?_
  refine WC.env [(0, _)] rfl ?_
  refine WC.seq ?_
  refine WC.run ?_
  refine WS.box W [_, _, _, _, _, _, _, _, _, _, _, _, _] rfl rfl rfl rfl ?_
  intro p1 h2 M3
  refine WS.op rfl rfl (WS.nil [(1, _)] rfl ?_)
  refine WC.seq ?_
  refine WC.seq ?_
  refine WC.run ?_
  refine WS.op rfl (op_lds [_, _, _, _, _, _, _, _, _, _, _, _, _] (M3.at 0 rfl) rfl (Nat.le_of_ble_eq_true rfl) rfl) ?_
  refine WS.call rfl rfl rfl (great_ran M3.here (m := m) (A.mono M3.sub) (by exact k0)) ?_
  rintro _ h4 ⟨⟨g9, rfl, hg9⟩, N5⟩
  have M6 := M3.trans N5
  refine WS.nil [(1, _), (9, _)] rfl ?_
  cases hb1 : g9
  · skip
    refine WC.condF rfl ?_
    refine WC.skip ?_
    refine WC.seq ?_
    refine WC.run ?_
    refine WS.op rfl (op_lds [_, _, _, _, _, _, _, _, _, _, _, _, _] (M6.at 0 rfl) rfl (Nat.le_of_ble_eq_true rfl) rfl) ?_
    obtain ⟨hz1, hz2, hz3, hz4⟩ := hg9 (by first | assumption | rfl)
    refine WS.call rfl rfl rfl (msg_Copy_ran M6.here (m := m) (A.mono M6.sub) (by omega)) ?_
    rintro _ h7 ⟨p10, rfl, N8⟩
    have M9 := M6.trans N8
    replace M9 : Mem _ _ ([(p10, _)] :: _) _ := M9
    refine WS.new M9 rfl ?_
    intro p11 h12 M13
    refine WS.st1 (M13.focus 0 rfl) [_, _, _, _, _, _, _, _, _, _, _, _, _] [_, _, _, _, _, _, _, _, _, _, _, _, _] rfl rfl rfl rfl rfl (Nat.le_of_ble_eq_true rfl) (Nat.le_of_ble_eq_true rfl) rfl rfl ?_
    intro h14 M15
    replace M15 : Mem _ _ ([(p11, _)] :: [(p10, _)] :: [(p1, _)] :: []) _ := M15
    refine WS.nil [(1, _), (3, _)] rfl ?_
    refine WC.seq ?_
    refine WC.run ?_
    refine WS.op rfl (op_lds [_, _, _, _, _, _, _, _, _, _, _, _, _] (M15.at 0 rfl) rfl (Nat.le_of_ble_eq_true rfl) rfl) (WS.op rfl (op_lds [_, _, _, _, _, _, _, _, _, _, _, _, _] (M15.at 2 rfl) rfl (Nat.le_of_ble_eq_true rfl) rfl) ?_)
    refine WS.call rfl rfl rfl (msg_Same_ran M15.here (m := m) (n := m) (Row.Sl.own (K := KEnt) (l := m.es) (M15.at 1 rfl)) (A.mono M15.sub) (by first | omega | (have := hI.1; dsimp only; omega))) ?_
    rintro _ h16 ⟨rfl, N17⟩
    have M18 := M15.trans N17
    refine WS.op rfl rfl ?_
    cases hb2 : (sameM m m)
    · skip
      rw [sameM_self] at hb2; cases hb2
    · skip
      refine WS.op rfl rfl (WS.op rfl (op_ld (M18.at 0 rfl) rfl rfl) (WS.op rfl rfl (WS.op rfl rfl (WS.op rfl (op_ld (M18.at 2 rfl) rfl rfl) (WS.op rfl (op_lenVS A rfl) ?_)))))
      refine WS.eqlN (a := (m.es).length) (b := (m.es).length) rfl rfl rfl (fun e23 => ?_) (fun e23 => ?_)
      · skip
        refine WS.op rfl rfl (WS.op rfl rfl (WS.nil [(1, _), (3, _), (4, _)] rfl ?_))
        refine WC.seq ?_
        refine WC.seq ?_
        refine WC.run ?_
        refine WS.op rfl rfl (WS.opV (.bool false) rfl rfl rfl (WS.nil [(1, _), (3, _), (26, _)] rfl ?_))
        refine WC.condF rfl ?_
        refine WC.skip ?_
        refine WC.seq ?_
        refine WC.run ?_
        refine WS.op rfl rfl (WS.nil [(1, _), (3, _), (5, _)] rfl ?_)
        refine WC.seq ?_
        refine WC.seq ?_
        refine WC.run ?_
        refine WS.op rfl rfl (WS.nil [(1, _), (3, _), (5, _), (6, _)] rfl ?_)
        refine WC.block ?_
        obtain ⟨L19, eL21, M20⟩ := Mem.name2 (((M18.bare.focus 1 rfl)).nils)
        refine WC.loop (σ := Value × Seg × List Ent × Nat) (fun ((Vw, S, es2, i)) => [(1, (.pointer (some ⟨p1, 0, none⟩))), (3, (.pointer (some ⟨p11, 0, none⟩))), (5, Vw), (6, (.int .i64 ((i : Nat) : Int)))]) (fun ((Vw, S, es2, i)) hh => Mem h hh (S :: [(p10, ⟨KEnt.flat es2, 13, false⟩)] :: L19) [] ∧ KEnt.Own Vw (m.es.take i) S ∧ InvB bump m.es es2 i ∧ i ≤ m.es.length) (fun ((Vw, S, es2, i)) => m.es.length - i) (.slice none 0 0, [], m.es, 0) rfl ⟨(by exact M20), ?_⟩ ?_
        · exact ⟨.nil, InvB_zero _ _, by omega⟩
        · rintro ⟨Vw, S, es2, i⟩ h22 ⟨M23, ⟨hO, hI, hi1⟩⟩
          subst eL21
          refine WC.env [(1, _), (3, _), (5, _), (6, _)] rfl ?_
          refine WC.seq ?_
          refine WC.seq ?_
          refine WC.run ?_
          refine WS.op rfl rfl (WS.op rfl rfl (WS.op rfl (op_ld (M23.at 3 rfl) rfl rfl) (WS.op rfl (op_lenVS A rfl) ?_)))
          refine WS.lssN (a := i) (b := (m.es).length) rfl rfl rfl (fun e31 => ?_) (fun e31 => ?_)
          · skip
            refine WS.nil [(1, _), (3, _), (5, _), (6, _), (31, _)] rfl ?_
            refine WC.condT rfl ?_
            refine WC.skip ?_
            refine WC.seq ?_
            refine WC.block ?_
            refine WC.seq ?_
            refine WC.run ?_
            refine WS.op rfl rfl (WS.op rfl rfl (WS.op rfl (op_ld (M23.at 3 rfl) rfl rfl) (WS.op rfl rfl ?_)))
            obtain ⟨y38, hy38⟩ : ∃ y, (m.es)[i]? = some y := ⟨_, List.getElem?_eq_getElem (show i < (m.es).length by first | omega | (simp only [List.length_drop, List.length_take, List.length_append, List.length_cons, List.length_nil, List.length_singleton]; omega) | (simp only [List.length_drop, List.length_take, List.length_append, List.length_cons, List.length_nil, List.length_singleton] at *; omega))⟩
            refine WS.iaVS A i hy38 rfl rfl rfl rfl ?_
            intro b38_ o38_ ha38
            refine WS.op rfl (op_ldAt rfl (ha38.mono M23.sub) rfl) ?_
            refine WS.bsl M23 [_, _, _, _, _, _, _, _, _, _, _, _, _] rfl rfl rfl rfl ?_
            intro p24 h25 M26
            refine WS.app (l := m.es.take i) (m := [y38]) (hO) (M26.focus 1 rfl) (Row.Src.one (K := KEnt) (m := [y38]) (M26.at 0 rfl)) rfl (by rw [List.length_take]; simp only [List.length_cons, List.length_nil]; omega) (by rw [List.length_take]; simp only [List.length_cons, List.length_nil]; omega) rfl rfl rfl ?_
            intro V27 S28 h29 O30 M31
            replace O30 : Row.Own KEnt V27 (m.es.take (i + 1)) S28 := by rw [List.take_add_one, hy38]; exact O30
            obtain ⟨P32, rfl⟩ := Row.Own.shape O30
            refine WS.op rfl rfl (WS.nil [(1, _), (3, _), (5, _), (6, _)] rfl ?_)
            refine WC.run ?_
            refine WS.op rfl rfl (WS.op rfl (op_ld (M31.at 3 rfl) rfl rfl) (WS.op rfl rfl ?_))
            obtain ⟨y45, hy45⟩ : ∃ y, (es2)[i]? = some y := ⟨_, List.getElem?_eq_getElem (show i < (es2).length by have := hI.1; omega)⟩
            refine WS.op rfl (op_iaV2 i rfl rfl (by have := hI.1; omega)) (WS.op rfl rfl (WS.op rfl (op_ldH rfl (Row.ld (K := KEnt) (k := 0) (M31.at 2 rfl) hy45 rfl)) (WS.opV (.int .u64 (((y45.ix + 1).toNat : Nat) : Int)) rfl rfl add1_u64 ?_)))
            obtain ⟨y49, hy49⟩ : ∃ y, (es2)[i]? = some y := ⟨_, List.getElem?_eq_getElem (show i < (es2).length by have := hI.1; omega)⟩
            refine WS.op rfl (op_iaV2 i rfl rfl (by have := hI.1; omega)) (WS.op rfl rfl ?_)
            refine WS.stE (K := KEnt) (y' := { y49 with ix := (y45.ix + 1) }) (M31.focus 2 rfl) hy49 (by decide) rfl rfl rfl rfl rfl rfl ?_
            intro h33 M34
            replace M34 : Mem _ _ ([(p10, _)] :: S28 :: [(p24, _)] :: [(p11, _)] :: [(p1, _)] :: []) _ := M34
            refine WS.nil [(1, _), (3, _), (5, _), (6, _)] rfl ?_
            refine WC.run ?_
            refine WS.op rfl rfl (WS.opV (.int .i64 (((i + 1) : Nat) : Int)) rfl rfl (add_i64 (a := i) (b := 1) (by first | omega | (rw [List.length_take] at *; omega))) (WS.op rfl rfl (WS.nil [(1, _), (3, _), (5, _), (6, _)] rfl ?_)))
            refine ⟨((.slice P32 (m.es.take (i + 1)).length (2 * (m.es.take (i + 1)).length)), S28, (es2.set i { y49 with ix := (y45.ix + 1) }), i + 1), rfl, ⟨(((((M34.bare.focus 4 rfl).focus 4 rfl).focus 2 rfl).focus 3 rfl).take 4), ?_⟩, ?_⟩
            · exact ⟨by assumption, InvB_step hI hy49 (by have e := hy45.symm.trans hy49; cases e; rfl), by omega⟩
            · simp only []; omega
          · skip
            refine WS.nil [(1, _), (3, _), (5, _), (6, _), (31, _)] rfl ?_
            refine WC.condF rfl ?_
            refine WC.exit ?_
            refine WC.seq ?_
            refine WC.seq ?_
            refine WC.run ?_
            refine WS.op rfl rfl (WS.nil [(1, _), (3, _), (5, _), (7, _)] rfl ?_)
            refine WC.block ?_
            obtain ⟨L35, eL37, M36⟩ := Mem.name M23.bare
            refine WC.loop (σ := Nat) (fun (k) => [(1, (.pointer (some ⟨p1, 0, none⟩))), (3, (.pointer (some ⟨p11, 0, none⟩))), (5, Vw), (7, (.int .i64 ((k : Nat) : Int)))]) (fun (k) hh => Mem h hh (L35) [] ∧ k ≤ (m.es.take i).length) (fun (k) => (m.es.take i).length - k) (0) rfl ⟨M36, ?_⟩ ?_
            · omega
            · rintro k h38 ⟨M39, hk1⟩
              subst eL37
              refine WC.env [(1, _), (3, _), (5, _), (7, _)] rfl ?_
              refine WC.seq ?_
              refine WC.seq ?_
              refine WC.run ?_
              refine WS.op rfl rfl (WS.op rfl rfl (WS.op rfl (op_lenVO hO rfl) ?_))
              refine WS.lssN (a := k) (b := (m.es.take i).length) rfl rfl rfl (fun e54 => ?_) (fun e54 => ?_)
              · skip
                refine WS.nil [(1, _), (3, _), (5, _), (7, _), (54, _)] rfl ?_
                refine WC.condT rfl ?_
                refine WC.skip ?_
                refine WC.seq ?_
                refine WC.block ?_
                refine WC.seq ?_
                refine WC.draw M39 [] rfl ?_
                intro rb40 h41 M42
                have hes := InvB_end hI (by omega)
                refine WS.op rfl rfl (WS.op rfl (op_ld (M42.at 3 rfl) rfl rfl) (WS.op rfl rfl ?_))
                obtain ⟨y60, hy60⟩ : ∃ y, (m.es)[k]? = some y := ⟨_, List.getElem?_eq_getElem (show k < (m.es).length by rw [List.length_take] at *; omega)⟩
                refine WS.iaVS A k hy60 rfl rfl rfl rfl ?_
                intro b60_ o60_ ha60
                refine WS.op rfl (op_ldAt rfl (ha60.mono M42.sub) rfl) (WS.op rfl rfl (WS.op rfl rfl ?_))
                obtain ⟨y64, hy64⟩ : ∃ y, (m.es.take i)[k]? = some y := ⟨_, List.getElem?_eq_getElem (show k < (m.es.take i).length by first | omega | (simp only [List.length_drop, List.length_take, List.length_append, List.length_cons, List.length_nil, List.length_singleton]; omega) | (simp only [List.length_drop, List.length_take, List.length_append, List.length_cons, List.length_nil, List.length_singleton] at *; omega))⟩
                refine WS.iaVS (Row.Own.sl hO (Mem.owni M42 0 rfl)) k hy64 rfl rfl rfl rfl ?_
                intro b64_ o64_ ha64
                refine WS.op rfl (op_ldAt rfl ha64 rfl) ?_
                refine WS.eqqDn (p := y60 = y64) rfl rfl rfl (Ent_eqV _ _) (fun e66 => ?_) (fun e66 => ?_)
                · skip
                  exact absurd (take_same hy60 hy64) e66
                · skip
                  refine WS.op rfl rfl (WS.op rfl (op_lds [_, _, _, _, _, _, _, _, _, _, _, _, _] (M42.at 2 rfl) rfl (Nat.le_of_ble_eq_true rfl) rfl) (WS.op rfl (op_lds [_, _, _, _, _, _, _, _, _, _, _, _, _] (M42.at 3 rfl) rfl (Nat.le_of_ble_eq_true rfl) rfl) ?_))
                  refine WS.call rfl rfl rfl (msg_Same_ran M42.here (m := (⟨m.kd, m.fr, m.to, m.tm, m.ix, m.lt, m.cm, m.rd, m.ok, m.mb, m.se, es2, m.body⟩ : Msg)) (n := m) (by have q_ := Row.Sl.own (K := KEnt) (l := es2) (c := (2 * (m.es).length + 1)) (M42.at 1 rfl); rw [hI.1] at q_; exact q_) (A.mono M42.sub) (by first | omega | (have := hI.1; dsimp only; omega))) ?_
                  rintro _ h43 ⟨rfl, N44⟩
                  have M45 := M42.trans N44
                  refine WS.op rfl rfl (WS.nil [(1, _), (3, _), (5, _), (7, _), (71, _)] rfl ?_)
                  cases hb3 : (sameM (⟨m.kd, m.fr, m.to, m.tm, m.ix, m.lt, m.cm, m.rd, m.ok, m.mb, m.se, es2, m.body⟩ : Msg) m)
                  · skip
                    refine WC.condF rfl ?_
                    refine WC.skip ?_
                    refine WC.run ?_
                    refine WS.op rfl rfl (WS.opV (.int .i64 (((k + 1) : Nat) : Int)) rfl rfl (add_i64 (a := k) (b := 1) (by first | omega | (rw [List.length_take] at *; omega))) (WS.op rfl rfl (WS.nil [(1, _), (3, _), (5, _), (7, _)] rfl ?_)))
                    refine ⟨k + 1, rfl, ⟨(((((M45.bare.bare.focus 3 rfl).focus 3 rfl).focus 3 rfl).focus 3 rfl).take 4), ?_⟩, ?_⟩
                    · omega
                    · simp only []; omega
                  · skip
                    refine WC.condT rfl ?_
                    refine WC.seq ?_
                    refine WC.run ?_
                    refine WS.op rfl rfl (WS.nil [(2, _)] rfl ?_)
                    refine WC.ret ?_
                    refine ⟨[_], (res_tmp rfl res_nil), ?_⟩
                    exact absurd (congrArg Msg.es (of_decide_eq_true (by assumption : decide (_ = m) = true))) (fun q => bump_ne hy60 (hes.symm.trans q))
              · skip
                refine WS.nil [(1, _), (3, _), (5, _), (7, _), (54, _)] rfl ?_
                refine WC.condF rfl ?_
                refine WC.exit ?_
                refine WC.seq ?_
                refine WC.run ?_
                refine WS.call rfl rfl rfl (awake_ran M39.here ) ?_
                rintro _ h46 ⟨rfl, N47⟩
                have M48 := M39.trans N47
                refine WS.op rfl rfl (WS.nil [(2, _)] rfl ?_)
                refine WC.ret ?_
                refine ⟨[_], (res_tmp rfl res_nil), ?_⟩
                rfl
      · skip
        exact absurd rfl e23
  · skip
    refine WC.condT rfl ?_
    refine WC.seq ?_
    refine WC.run ?_
    refine WS.call rfl rfl rfl (awake_ran M6.here ) ?_
    rintro _ h49 ⟨rfl, N50⟩
    have M51 := M6.trans N50
    refine WS.op rfl rfl (WS.nil [(2, _)] rfl ?_)
    refine WC.ret ?_
    refine ⟨[_], (res_tmp rfl res_nil), ?_⟩
    rfl
end Go.Proofs.Ytebgfahbhieoiaa.Wt
