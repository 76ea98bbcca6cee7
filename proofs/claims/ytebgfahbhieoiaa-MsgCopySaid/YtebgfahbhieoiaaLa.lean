/- The statements of chapter 05, walked. -/
import Derived.Test.YtebgfahbhieoiaaMsg
import Derived.Test.YtebgfahbhieoiaaAmZO
import Derived.KernelRfl
namespace Go.Proofs.Ytebgfahbhieoiaa.Wt
open Go Go.Proofs.Ytebgfahbhieoiaa.Am Go.Proofs.Ytebgfahbhieoiaa.IrAll
set_option linter.unusedVariables false
set_option linter.unusedSimpArgs false
theorem opens_5 : OpensL Try.prog 5 layU8 1 (fun _ => True) := OpensL.u8 Try.underlying5 (by kernel_rfl)
theorem opens_28 : OpensL Try.prog 28 (layP layU8 (layP layU8 (layP layU8 (layP layU8 (layP layU8 (layP layU8 (layP layU8 layU8))))))) 8 (fun _ => True) := OpensL.array (fs := [(5, 0), (5, 1), (5, 2), (5, 3), (5, 4), (5, 5), (5, 6), (5, 7)]) id (fun _ _ _ h => h) (fun _ _ => trivial) Try.underlying28 (by kernel_rfl) (by kernel_rfl) (OpensLF.cons (by decide) (by decide) opens_5 (OpensLF.cons (by decide) (by decide) opens_5 (OpensLF.cons (by decide) (by decide) opens_5 (OpensLF.cons (by decide) (by decide) opens_5 (OpensLF.cons (by decide) (by decide) opens_5 (OpensLF.cons (by decide) (by decide) opens_5 (OpensLF.cons (by decide) (by decide) opens_5 (OpensLF.one opens_5))))))))
theorem opens_23 : OpensL Try.prog 23 layU64 1 (fun _ => True) := OpensL.u64 Try.underlying23 (by kernel_rfl)
theorem opens_9 : OpensL Try.prog 9 layStr 1 (fun a => a.length < 9223372036854775808) := OpensL.string Try.underlying9 (by kernel_rfl)
set_option maxRecDepth 100000 in
theorem opens_30 : OpensL Try.prog 30 (α := Ent) (fun _ y cs => cs = KEnt.cells y) 13 (fun y => y.body.length < 9223372036854775808) := by
  refine OpensL.struct (fs := [(23, 0), (23, 1), (5, 2), (5, 3), (28, 4), (9, 12)]) (L := (layP layU64 (layP layU64 (layP layU8 (layP layU8 (layP (layP layU8 (layP layU8 (layP layU8 (layP layU8 (layP layU8 (layP layU8 (layP layU8 layU8))))))) layStr)))))) (mk := fun (ix, tm, kd, sl, (t0, t1, t2, t3, t4, t5, t6, t7), body) => ⟨ix, tm, kd, sl, t0, t1, t2, t3, t4, t5, t6, t7, body⟩) ?_ ?_ (by kernel_rfl) (by kernel_rfl) (OpensLF.cons (by decide) (by decide) opens_23 (OpensLF.cons (by decide) (by decide) opens_23 (OpensLF.cons (by decide) (by decide) opens_5 (OpensLF.cons (by decide) (by decide) opens_5 (OpensLF.cons (by decide) (by decide) opens_28 (OpensLF.one opens_9))))))
  · rintro h ⟨ix, tm, kd, sl, ⟨t0, t1, t2, t3, t4, t5, t6, t7⟩, body⟩ cs ⟨_, _, rfl, rfl, ⟨_, _, rfl, rfl, ⟨_, _, rfl, rfl, ⟨_, _, rfl, rfl, ⟨_, _, rfl, ⟨_, _, rfl, rfl, ⟨_, _, rfl, rfl, ⟨_, _, rfl, rfl, ⟨_, _, rfl, rfl, ⟨_, _, rfl, rfl, ⟨_, _, rfl, rfl, ⟨_, _, rfl, rfl, rfl⟩⟩⟩⟩⟩⟩⟩, rfl⟩⟩⟩⟩⟩
    rfl
  · rintro ⟨ix, tm, kd, sl, ⟨t0, t1, t2, t3, t4, t5, t6, t7⟩, body⟩ ⟨k0, k1, k2, k3, k4, k5⟩
    exact k5
theorem opens_24 : OpensL Try.prog 24 (laySl (fun _ y cs => cs = KEnt.cells y) 13) 1 (fun l => l.length < 9223372036854775808 ∧ ∀ x ∈ l, (fun y => y.body.length < 9223372036854775808) x) := OpensL.slice Try.underlying24 (by kernel_rfl) (by decide) opens_30
theorem opens_4 : OpensL Try.prog 4 layBool 1 (fun _ => True) := OpensL.bool Try.underlying4 (by kernel_rfl)
set_option maxRecDepth 100000 in
theorem opens_26 : OpensL Try.prog 26 (α := Msg) (fun h m cs => ∃ V, cs = Msg.cells m V ∧ SlL (fun _ y cs => cs = KEnt.cells y) 13 h V m.es) 13 (fun m => m.body.length < 9223372036854775808 ∧ m.es.length < 9223372036854775808) := by
  refine OpensL.struct (fs := [(5, 0), (5, 1), (5, 2), (23, 3), (23, 4), (23, 5), (23, 6), (23, 7), (4, 8), (5, 9), (5, 10), (24, 11), (9, 12)]) (L := (layP layU8 (layP layU8 (layP layU8 (layP layU64 (layP layU64 (layP layU64 (layP layU64 (layP layU64 (layP layBool (layP layU8 (layP layU8 (layP (laySl (fun _ y cs => cs = KEnt.cells y) 13) layStr))))))))))))) (mk := fun (kd, fr, to, tm, ix, lt, cm, rd, ok, mb, se, es, body) => ⟨kd, fr, to, tm, ix, lt, cm, rd, ok, mb, se, es, body⟩) ?_ ?_ (by kernel_rfl) (by kernel_rfl) (OpensLF.cons (by decide) (by decide) opens_5 (OpensLF.cons (by decide) (by decide) opens_5 (OpensLF.cons (by decide) (by decide) opens_5 (OpensLF.cons (by decide) (by decide) opens_23 (OpensLF.cons (by decide) (by decide) opens_23 (OpensLF.cons (by decide) (by decide) opens_23 (OpensLF.cons (by decide) (by decide) opens_23 (OpensLF.cons (by decide) (by decide) opens_23 (OpensLF.cons (by decide) (by decide) opens_4 (OpensLF.cons (by decide) (by decide) opens_5 (OpensLF.cons (by decide) (by decide) opens_5 (OpensLF.cons (by decide) (by decide) opens_24 (OpensLF.one opens_9)))))))))))))
  · rintro h ⟨kd, fr, to, tm, ix, lt, cm, rd, ok, mb, se, es, body⟩ cs ⟨_, _, rfl, rfl, ⟨_, _, rfl, rfl, ⟨_, _, rfl, rfl, ⟨_, _, rfl, rfl, ⟨_, _, rfl, rfl, ⟨_, _, rfl, rfl, ⟨_, _, rfl, rfl, ⟨_, _, rfl, rfl, ⟨_, _, rfl, rfl, ⟨_, _, rfl, rfl, ⟨_, _, rfl, rfl, ⟨_, _, rfl, ⟨V, rfl, hS⟩, rfl⟩⟩⟩⟩⟩⟩⟩⟩⟩⟩⟩⟩
    exact ⟨V, rfl, hS⟩
  · rintro ⟨kd, fr, to, tm, ix, lt, cm, rd, ok, mb, se, es, body⟩ ⟨k0, k1, k2, k3, k4, k5, k6, k7, k8, k9, k10, k11, k12⟩
    exact ⟨k12, k11.1⟩
theorem opens_39 : OpensL Try.prog 39 layU16 1 (fun _ => True) := OpensL.u16 Try.underlying39 (by kernel_rfl)
variable {h : H}
theorem awake_ran (W : Mem h h [] []) : Cll tab0 14 [] h (fun v h2 => v = .bool true ∧ Mem h h2 [] []) := ⟨_, h, awake_run h, rfl, W⟩
theorem great_ran (W : Mem h h [] []) {m : Msg} {V : Value} (A : KEnt.Sl h V m.es) (hl : m.body.length < 9223372036854775808 ∧ m.es.length < 9223372036854775808) : Cll tab0 15 [m.val V] h (fun v h2 => (∃ g, v = .bool g ∧ (g = false → Small m.es ∧ m.es.length ≤ 40 ∧ m.body.length ≤ 6000 ∧ ∀ x ∈ m.es, x.body.length ≤ 6000)) ∧ Mem h h2 [] []) := by
  obtain ⟨P, c, rfl⟩ := A.shape
  obtain ⟨hl, hl2⟩ := hl
  refine Cll.code rfl rfl ?_
  refine WC.env [(0, _)] rfl ?_
  refine WC.seq ?_
  refine WC.run ?_
  refine WS.box W [_, _, _, _, _, _, _, _, _, _, _, _, _] rfl rfl rfl rfl ?_
  intro p1 h2 M3
  refine WS.op rfl rfl (WS.nil [(1, _)] rfl ?_)
  refine WC.seq ?_
  refine WC.seq ?_
  obtain ⟨L4, eL6, M5⟩ := Mem.name M3.bare
  refine WC.joinB (base := h) (fun b => [(1, (.pointer (some ⟨p1, 0, none⟩))), (14, .bool b)]) L4 (True) (m.es.length ≤ 40 ∧ m.body.length ≤ 6000) ?_ ?_ ?_
  · subst eL6
    refine WS.op rfl rfl (WS.op rfl (op_ld (M5.at 0 rfl) rfl rfl) (WS.op rfl (op_lenVS A rfl) ?_))
    refine WS.gtrN (a := (m.es).length) (b := 40) rfl rfl rfl (fun e8 => ?_) (fun e8 => ?_)
    · skip
      refine WS.op rfl rfl (WS.off rfl (WS.off rfl (WS.off rfl (WS.off rfl (WS.op rfl rfl ?_)))))
      refine WS.nil' ⟨true, rfl, ((M5.bare.focus 0 rfl).take 1), fun _ => ?_, fun hh => ?_⟩
      · trivial
      · cases hh
    · skip
      refine WS.op rfl rfl (WS.op rfl rfl (WS.op rfl (op_ld (M5.at 0 rfl) rfl rfl) (WS.op rfl (op_lenS (l := m.body) rfl) ?_)))
      refine WS.gtrN (a := (m.body).length) (b := 6000) rfl rfl rfl (fun e13 => ?_) (fun e13 => ?_)
      · skip
        refine WS.op rfl rfl ?_
        refine WS.nil' ⟨true, rfl, ((M5.bare.focus 0 rfl).take 1), fun _ => ?_, fun hh => ?_⟩
        · trivial
        · cases hh
      · skip
        refine WS.op rfl rfl ?_
        refine WS.nil' ⟨false, rfl, ((M5.bare.focus 0 rfl).take 1), fun hh => ?_, fun _ => ?_⟩
        · cases hh
        · omega
  · intro h7 M8 hp14
    subst eL6
    refine WC.condT rfl ?_
    refine WC.seq ?_
    refine WC.run ?_
    refine WS.op rfl rfl (WS.nil [(2, _)] rfl ?_)
    refine WC.ret ?_
    refine ⟨[_], (res_tmp rfl res_nil), ?_⟩
    exact ⟨⟨true, rfl, fun q => by cases q⟩, M8.bare.take 0⟩
  · intro h9 M10 hp14
    subst eL6
    refine WC.condF rfl ?_
    refine WC.skip ?_
    refine WC.seq ?_
    refine WC.run ?_
    refine WS.op rfl rfl (WS.op rfl (op_ld (M10.at 0 rfl) rfl rfl) (WS.op rfl (op_lenS (l := m.body) rfl) (WS.op rfl rfl (WS.nil [(1, _), (3, _)] rfl ?_))))
    refine WC.seq ?_
    refine WC.seq ?_
    refine WC.run ?_
    refine WS.op rfl rfl (WS.nil [(1, _), (3, _), (4, _)] rfl ?_)
    refine WC.block ?_
    obtain ⟨L11, eL13, M12⟩ := Mem.name M10.bare
    refine WC.loop (σ := Nat × Nat) (fun ((n, i)) => [(1, (.pointer (some ⟨p1, 0, none⟩))), (3, (.int .i64 ((n : Nat) : Int))), (4, (.int .i64 ((i : Nat) : Int)))]) (fun ((n, i)) hh => Mem h hh (L11) [] ∧ (∀ x ∈ m.es.take i, x.body.length ≤ 6000) ∧ i ≤ m.es.length ∧ n ≤ 6000 + 6000 * i) (fun ((n, i)) => m.es.length - i) (m.body.length, 0) rfl ⟨M12, ?_⟩ ?_
    · exact ⟨by intro x hx; simp at hx, by omega, by omega⟩
    · rintro ⟨n, i⟩ h14 ⟨M15, ⟨hO, hi1, hn⟩⟩
      subst eL13
      refine WC.env [(1, _), (3, _), (4, _)] rfl ?_
      refine WC.seq ?_
      refine WC.seq ?_
      refine WC.run ?_
      refine WS.op rfl rfl (WS.op rfl rfl (WS.op rfl (op_ld (M15.at 0 rfl) rfl rfl) (WS.op rfl (op_lenVS A rfl) ?_)))
      refine WS.lssN (a := i) (b := (m.es).length) rfl rfl rfl (fun e22 => ?_) (fun e22 => ?_)
      · skip
        refine WS.nil [(1, _), (3, _), (4, _), (22, _)] rfl ?_
        refine WC.condT rfl ?_
        refine WC.skip ?_
        refine WC.seq ?_
        refine WC.block ?_
        refine WC.seq ?_
        refine WC.seq ?_
        refine WC.run ?_
        refine WS.op rfl rfl (WS.op rfl (op_ld (M15.at 0 rfl) rfl rfl) (WS.op rfl rfl ?_))
        obtain ⟨y28, hy28⟩ : ∃ y, (m.es)[i]? = some y := ⟨_, List.getElem?_eq_getElem (show i < (m.es).length by first | omega | (simp only [List.length_drop, List.length_take, List.length_append, List.length_cons, List.length_nil, List.length_singleton]; omega) | (simp only [List.length_drop, List.length_take, List.length_append, List.length_cons, List.length_nil, List.length_singleton] at *; omega))⟩
        refine WS.iaVS A i hy28 rfl rfl rfl rfl ?_
        intro b28_ o28_ ha28
        refine WS.op rfl rfl (WS.op rfl (op_ldH rfl (At.ld (ha28.mono M15.sub) rfl)) (WS.op rfl (op_lenS (l := y28.body) rfl) ?_))
        refine WS.gtrN (a := (y28.body).length) (b := 6000) rfl rfl rfl (fun e32 => ?_) (fun e32 => ?_)
        · skip
          refine WS.nil [(1, _), (3, _), (4, _), (32, _)] rfl ?_
          refine WC.condT rfl ?_
          refine WC.seq ?_
          refine WC.run ?_
          refine WS.op rfl rfl (WS.nil [(2, _)] rfl ?_)
          refine WC.ret ?_
          refine ⟨[_], (res_tmp rfl res_nil), ?_⟩
          exact ⟨⟨true, rfl, fun q => by cases q⟩, M15.bare.take 0⟩
        · skip
          refine WS.nil [(1, _), (3, _), (4, _), (32, _)] rfl ?_
          refine WC.condF rfl ?_
          refine WC.skip ?_
          refine WC.run ?_
          refine WS.op rfl rfl (WS.op rfl rfl (WS.op rfl (op_ld (M15.at 0 rfl) rfl rfl) (WS.op rfl rfl ?_)))
          obtain ⟨y37, hy37⟩ : ∃ y, (m.es)[i]? = some y := ⟨_, List.getElem?_eq_getElem (show i < (m.es).length by first | omega | (simp only [List.length_drop, List.length_take, List.length_append, List.length_cons, List.length_nil, List.length_singleton]; omega) | (simp only [List.length_drop, List.length_take, List.length_append, List.length_cons, List.length_nil, List.length_singleton] at *; omega))⟩
          refine WS.iaVS A i hy37 rfl rfl rfl rfl ?_
          intro b37_ o37_ ha37
          refine WS.op rfl rfl (WS.op rfl (op_ldH rfl (At.ld (ha37.mono M15.sub) rfl)) (WS.op rfl (op_lenS (l := y37.body) rfl) ?_))
          have h37 : y37.body.length ≤ 6000 := by have := hy37.symm.trans hy28; cases this; omega
          refine WS.opV (.int .i64 (((n + (y37.body).length) : Nat) : Int)) rfl rfl (add_i64 (a := n) (b := (y37.body).length) (by omega)) (WS.op rfl rfl (WS.nil [(1, _), (3, _), (4, _)] rfl ?_))
          refine WC.run ?_
          refine WS.op rfl rfl (WS.opV (.int .i64 (((i + 1) : Nat) : Int)) rfl rfl (add_i64 (a := i) (b := 1) (by omega)) (WS.op rfl rfl (WS.nil [(1, _), (3, _), (4, _)] rfl ?_)))
          refine ⟨(n + y37.body.length, i + 1), rfl, ⟨((M15.bare.focus 0 rfl).take 1), ?_⟩, ?_⟩
          · exact ⟨take_snoc_all hO hy37 (by have := hy37.symm.trans hy28; cases this; omega), by omega, by have := hy37.symm.trans hy28; cases this; omega⟩
          · simp only [] at *; omega
      · skip
        refine WS.nil [(1, _), (3, _), (4, _), (22, _)] rfl ?_
        refine WC.condF rfl ?_
        refine WC.exit ?_
        refine WC.seq ?_
        refine WC.run ?_
        refine WS.op rfl rfl ?_
        refine WS.gtrN (a := n) (b := 6000) rfl rfl rfl (fun e43 => ?_) (fun e43 => ?_)
        · skip
          refine WS.op rfl rfl (WS.nil [(2, _)] rfl ?_)
          refine WC.ret ?_
          refine ⟨[_], (res_tmp rfl res_nil), ?_⟩
          exact ⟨⟨true, rfl, fun q => by cases q⟩, M15.bare.take 0⟩
        · skip
          refine WS.op rfl rfl (WS.nil [(2, _)] rfl ?_)
          refine WC.ret ?_
          refine ⟨[_], (res_tmp rfl res_nil), ?_⟩
          rw [List.take_of_length_le (by omega)] at hO
          exact ⟨⟨false, rfl, fun _ => ⟨fun x hx => by have := hO x hx; omega, hp14.1, hp14.2, hO⟩⟩, M15.bare.take 0⟩
theorem sameM_self (m : Msg) : sameM m m = true := by simp [sameM]
theorem law_MsgWrites (W : Mem h h [] []) {m n : Msg} {a0 a1 : List Value} (l0 : ∃ V, a0 = Msg.cells m V ∧ SlL (fun _ y cs => cs = KEnt.cells y) 13 h V m.es) (l1 : ∃ V, a1 = Msg.cells n V ∧ SlL (fun _ y cs => cs = KEnt.cells y) 13 h V n.es)
    (k0 : m.body.length < 9223372036854775808 ∧ m.es.length < 9223372036854775808) (k1 : n.body.length < 9223372036854775808 ∧ n.es.length < 9223372036854775808) : Cll tab0 4 [.agg a0.toArray, .agg a1.toArray] h (fun v _ => v = .bool true) := by
  obtain ⟨V0, rfl, S0⟩ := l0
  obtain ⟨V1, rfl, S1⟩ := l1
  have A : KEnt.Sl h V0 m.es := SlL.sl S0
  have A1 : KEnt.Sl h V1 n.es := SlL.sl S1
  obtain ⟨P, c, rfl⟩ := A.shape
  obtain ⟨P1, c1, rfl⟩ := A1.shape
  refine Cll.code rfl rfl ?_
  refine WC.env [(0, _), (1, _)] rfl ?_
  refine WC.seq ?_
  refine WC.run ?_
  refine WS.box W [_, _, _, _, _, _, _, _, _, _, _, _, _] rfl rfl rfl rfl ?_
  intro p1 h2 M3
  refine WS.box M3 [_, _, _, _, _, _, _, _, _, _, _, _, _] rfl rfl rfl rfl ?_
  intro p4 h5 M6
  refine WS.op rfl rfl (WS.nil [(2, _), (3, _)] rfl ?_)
  refine WC.seq ?_
  refine WC.seq ?_
  obtain ⟨L7, eL9, M8⟩ := Mem.name M6.bare
  refine WC.joinB (base := h) (fun b => [(2, (.pointer (some ⟨p1, 0, none⟩))), (3, (.pointer (some ⟨p4, 0, none⟩))), (10, .bool b)]) L7 (True) ((Small m.es ∧ m.es.length ≤ 40 ∧ m.body.length ≤ 6000 ∧ ∀ x ∈ m.es, x.body.length ≤ 6000)) ?_ ?_ ?_
  · subst eL9
    refine WS.op rfl (op_lds [_, _, _, _, _, _, _, _, _, _, _, _, _] (M8.at 1 rfl) rfl (Nat.le_of_ble_eq_true rfl) rfl) ?_
    refine WS.call rfl rfl rfl (great_ran M8.here (m := m) (A.mono M8.sub) (by assumption)) ?_
    rintro _ h10 ⟨⟨g6, rfl, hg6⟩, N11⟩
    have M12 := M8.trans N11
    refine WS.op rfl rfl ?_
    cases hb1 : g6
    · skip
      refine WS.op rfl (op_lds [_, _, _, _, _, _, _, _, _, _, _, _, _] (M12.at 0 rfl) rfl (Nat.le_of_ble_eq_true rfl) rfl) ?_
      refine WS.call rfl rfl rfl (great_ran M12.here (m := n) (A1.mono M12.sub) (by assumption)) ?_
      rintro _ h13 ⟨⟨g9, rfl, hg9⟩, N14⟩
      have M15 := M12.trans N14
      refine WS.op rfl rfl ?_
      cases hb2 : g9
      · skip
        refine WS.nil' ⟨false, rfl, (((M15.bare.focus 1 rfl).focus 1 rfl).take 2), fun hh => ?_, fun _ => ?_⟩
        · cases hh
        · exact hg6 (by first | assumption | rfl)
      · skip
        refine WS.nil' ⟨true, rfl, (((M15.bare.focus 1 rfl).focus 1 rfl).take 2), fun _ => ?_, fun hh => ?_⟩
        · trivial
        · cases hh
    · skip
      refine WS.off rfl (WS.offC rfl (WS.op rfl rfl ?_))
      refine WS.nil' ⟨true, rfl, (((M12.bare.focus 1 rfl).focus 1 rfl).take 2), fun _ => ?_, fun hh => ?_⟩
      · trivial
      · cases hh
  · intro h16 M17 hp10
    subst eL9
    refine WC.condT rfl ?_
    refine WC.seq ?_
    refine WC.run ?_
    refine WS.call rfl rfl rfl (awake_ran M17.here ) ?_
    rintro _ h18 ⟨rfl, N19⟩
    have M20 := M17.trans N19
    refine WS.op rfl rfl (WS.nil [(4, _)] rfl ?_)
    refine WC.ret ?_
    refine ⟨[_], (res_tmp rfl res_nil), ?_⟩
    rfl
  · intro h21 M22 hp10
    subst eL9
    refine WC.condF rfl ?_
    refine WC.skip ?_
    refine WC.seq ?_
    refine WC.draw M22 [] rfl ?_
    intro rb23 h24 M25
    refine WS.op rfl (op_lds [_, _, _, _, _, _, _, _, _, _, _, _, _] (M25.at 1 rfl) rfl (Nat.le_of_ble_eq_true rfl) rfl) (WS.op rfl (op_lds [_, _, _, _, _, _, _, _, _, _, _, _, _] (M25.at 1 rfl) rfl (Nat.le_of_ble_eq_true rfl) rfl) ?_)
    refine WS.call rfl rfl rfl (msg_Right_ran M25.here (m := m) (A.mono M25.sub) (by first | exact ⟨hp10.1, by omega, by omega⟩ | omega)) ?_
    rintro _ h26 ⟨rfl, N27⟩
    have M28 := M25.trans N27
    refine WS.chk rfl (op_lds [_, _, _, _, _, _, _, _, _, _, _, _, _] (M28.at 1 rfl) rfl (Nat.le_of_ble_eq_true rfl) rfl) rfl (same_agg rfl) ?_
    refine WS.call rfl rfl rfl (ref5_Right_ran M28.here (m := m) (A.mono M28.sub) (by first | exact ⟨hp10.1, by omega, by omega⟩ | omega)) ?_
    rintro _ h29 ⟨rfl, N30⟩
    have M31 := M28.trans N30
    cases hb3 : (rightMB m)
    · skip
      refine WS.opV (.bool true) rfl rfl rfl (WS.op rfl rfl (WS.op rfl (op_lds [_, _, _, _, _, _, _, _, _, _, _, _, _] (M31.at 1 rfl) rfl (Nat.le_of_ble_eq_true rfl) rfl) (WS.op rfl (op_lds [_, _, _, _, _, _, _, _, _, _, _, _, _] (M31.at 1 rfl) rfl (Nat.le_of_ble_eq_true rfl) rfl) ?_)))
      refine WS.call rfl rfl rfl (msg_Write_ran M31.here (m := m) (A.mono M31.sub) (by first | exact ⟨hp10.1, by omega, by omega⟩ | omega)) ?_
      rintro _ h32 ⟨rfl, N33⟩
      have M34 := M31.trans N33
      refine WS.chk rfl (op_lds [_, _, _, _, _, _, _, _, _, _, _, _, _] (M34.at 1 rfl) rfl (Nat.le_of_ble_eq_true rfl) rfl) rfl (same_agg rfl) ?_
      refine WS.call rfl rfl rfl (ref5_Write_ran M34.here (m := m) (A.mono M34.sub) (by first | exact ⟨hp10.1, by omega, by omega⟩ | omega)) ?_
      rintro _ h35 ⟨rfl, N36⟩
      have M37 := M34.trans N36
      refine WS.seql (l := (writeM m)) (m := (writeM m)) rfl rfl rfl (fun e22 => ?_) (fun e22 => ?_)
      · skip
        refine WS.op rfl rfl (WS.op rfl rfl (WS.op rfl (op_lds [_, _, _, _, _, _, _, _, _, _, _, _, _] (M37.at 1 rfl) rfl (Nat.le_of_ble_eq_true rfl) rfl) (WS.op rfl (op_lds [_, _, _, _, _, _, _, _, _, _, _, _, _] (M37.at 0 rfl) rfl (Nat.le_of_ble_eq_true rfl) rfl) (WS.op rfl (op_lds [_, _, _, _, _, _, _, _, _, _, _, _, _] (M37.at 1 rfl) rfl (Nat.le_of_ble_eq_true rfl) rfl) (WS.op rfl (op_lds [_, _, _, _, _, _, _, _, _, _, _, _, _] (M37.at 0 rfl) rfl (Nat.le_of_ble_eq_true rfl) rfl) ?_)))))
        refine WS.call rfl rfl rfl (msg_Same_ran M37.here (m := m) (n := n) (A.mono M37.sub) (A1.mono M37.sub) (by first | exact ⟨hp10.1, by omega, by omega⟩ | omega)) ?_
        rintro _ h38 ⟨rfl, N39⟩
        have M40 := M37.trans N39
        refine WS.chk rfl (op_lds [_, _, _, _, _, _, _, _, _, _, _, _, _] (M40.at 1 rfl) rfl (Nat.le_of_ble_eq_true rfl) rfl) rfl (same_agg rfl) (WS.chk rfl (op_lds [_, _, _, _, _, _, _, _, _, _, _, _, _] (M40.at 0 rfl) rfl (Nat.le_of_ble_eq_true rfl) rfl) rfl (same_agg rfl) ?_)
        refine WS.call rfl rfl rfl (ref5_Same_ran M40.here (m := m) (n := n) (A.mono M40.sub) (A1.mono M40.sub) (by first | exact ⟨hp10.1, by omega, by omega⟩ | omega)) ?_
        rintro _ h41 ⟨rfl, N42⟩
        have M43 := M40.trans N42
        cases hb4 : (sameM m n)
        · skip
          refine WS.opV (.bool true) rfl rfl rfl (WS.op rfl rfl (WS.op rfl rfl (WS.op rfl (op_lds [_, _, _, _, _, _, _, _, _, _, _, _, _] (M43.at 1 rfl) rfl (Nat.le_of_ble_eq_true rfl) rfl) (WS.op rfl (op_lds [_, _, _, _, _, _, _, _, _, _, _, _, _] (M43.at 1 rfl) rfl (Nat.le_of_ble_eq_true rfl) rfl) ?_))))
          refine WS.call rfl rfl rfl (msg_Same_ran M43.here (m := m) (n := m) (A.mono M43.sub) (A.mono M43.sub) (by first | exact ⟨hp10.1, by omega, by omega⟩ | omega)) ?_
          rintro _ h44 ⟨rfl, N45⟩
          have M46 := M43.trans N45
          refine WS.op rfl rfl (WS.op rfl rfl ?_)
          cases hb5 : (sameM m m)
          · skip
            rw [sameM_self] at hb5; cases hb5
          · skip
            refine WS.call rfl rfl rfl (awake_ran M46.here ) ?_
            rintro _ h47 ⟨rfl, N48⟩
            have M49 := M46.trans N48
            refine WS.op rfl rfl (WS.op rfl rfl (WS.nil [(4, _)] rfl ?_))
            refine WC.ret ?_
            refine ⟨[_], (res_tmp rfl res_nil), ?_⟩
            rfl
        · skip
          refine WS.opV (.bool true) rfl rfl rfl (WS.op rfl rfl (WS.op rfl rfl (WS.op rfl (op_lds [_, _, _, _, _, _, _, _, _, _, _, _, _] (M43.at 1 rfl) rfl (Nat.le_of_ble_eq_true rfl) rfl) (WS.op rfl (op_lds [_, _, _, _, _, _, _, _, _, _, _, _, _] (M43.at 1 rfl) rfl (Nat.le_of_ble_eq_true rfl) rfl) ?_))))
          refine WS.call rfl rfl rfl (msg_Same_ran M43.here (m := m) (n := m) (A.mono M43.sub) (A.mono M43.sub) (by first | exact ⟨hp10.1, by omega, by omega⟩ | omega)) ?_
          rintro _ h50 ⟨rfl, N51⟩
          have M52 := M43.trans N51
          refine WS.op rfl rfl (WS.op rfl rfl ?_)
          cases hb5 : (sameM m m)
          · skip
            rw [sameM_self] at hb5; cases hb5
          · skip
            refine WS.call rfl rfl rfl (awake_ran M52.here ) ?_
            rintro _ h53 ⟨rfl, N54⟩
            have M55 := M52.trans N54
            refine WS.op rfl rfl (WS.op rfl rfl (WS.nil [(4, _)] rfl ?_))
            refine WC.ret ?_
            refine ⟨[_], (res_tmp rfl res_nil), ?_⟩
            rfl
      · skip
        exact absurd rfl e22
    · skip
      refine WS.opV (.bool true) rfl rfl rfl (WS.op rfl rfl (WS.op rfl (op_lds [_, _, _, _, _, _, _, _, _, _, _, _, _] (M31.at 1 rfl) rfl (Nat.le_of_ble_eq_true rfl) rfl) (WS.op rfl (op_lds [_, _, _, _, _, _, _, _, _, _, _, _, _] (M31.at 1 rfl) rfl (Nat.le_of_ble_eq_true rfl) rfl) ?_)))
      refine WS.call rfl rfl rfl (msg_Write_ran M31.here (m := m) (A.mono M31.sub) (by first | exact ⟨hp10.1, by omega, by omega⟩ | omega)) ?_
      rintro _ h56 ⟨rfl, N57⟩
      have M58 := M31.trans N57
      refine WS.chk rfl (op_lds [_, _, _, _, _, _, _, _, _, _, _, _, _] (M58.at 1 rfl) rfl (Nat.le_of_ble_eq_true rfl) rfl) rfl (same_agg rfl) ?_
      refine WS.call rfl rfl rfl (ref5_Write_ran M58.here (m := m) (A.mono M58.sub) (by first | exact ⟨hp10.1, by omega, by omega⟩ | omega)) ?_
      rintro _ h59 ⟨rfl, N60⟩
      have M61 := M58.trans N60
      refine WS.seql (l := (writeM m)) (m := (writeM m)) rfl rfl rfl (fun e22 => ?_) (fun e22 => ?_)
      · skip
        refine WS.op rfl rfl (WS.op rfl rfl (WS.op rfl (op_lds [_, _, _, _, _, _, _, _, _, _, _, _, _] (M61.at 1 rfl) rfl (Nat.le_of_ble_eq_true rfl) rfl) (WS.op rfl (op_lds [_, _, _, _, _, _, _, _, _, _, _, _, _] (M61.at 0 rfl) rfl (Nat.le_of_ble_eq_true rfl) rfl) (WS.op rfl (op_lds [_, _, _, _, _, _, _, _, _, _, _, _, _] (M61.at 1 rfl) rfl (Nat.le_of_ble_eq_true rfl) rfl) (WS.op rfl (op_lds [_, _, _, _, _, _, _, _, _, _, _, _, _] (M61.at 0 rfl) rfl (Nat.le_of_ble_eq_true rfl) rfl) ?_)))))
        refine WS.call rfl rfl rfl (msg_Same_ran M61.here (m := m) (n := n) (A.mono M61.sub) (A1.mono M61.sub) (by first | exact ⟨hp10.1, by omega, by omega⟩ | omega)) ?_
        rintro _ h62 ⟨rfl, N63⟩
        have M64 := M61.trans N63
        refine WS.chk rfl (op_lds [_, _, _, _, _, _, _, _, _, _, _, _, _] (M64.at 1 rfl) rfl (Nat.le_of_ble_eq_true rfl) rfl) rfl (same_agg rfl) (WS.chk rfl (op_lds [_, _, _, _, _, _, _, _, _, _, _, _, _] (M64.at 0 rfl) rfl (Nat.le_of_ble_eq_true rfl) rfl) rfl (same_agg rfl) ?_)
        refine WS.call rfl rfl rfl (ref5_Same_ran M64.here (m := m) (n := n) (A.mono M64.sub) (A1.mono M64.sub) (by first | exact ⟨hp10.1, by omega, by omega⟩ | omega)) ?_
        rintro _ h65 ⟨rfl, N66⟩
        have M67 := M64.trans N66
        cases hb4 : (sameM m n)
        · skip
          refine WS.opV (.bool true) rfl rfl rfl (WS.op rfl rfl (WS.op rfl rfl (WS.op rfl (op_lds [_, _, _, _, _, _, _, _, _, _, _, _, _] (M67.at 1 rfl) rfl (Nat.le_of_ble_eq_true rfl) rfl) (WS.op rfl (op_lds [_, _, _, _, _, _, _, _, _, _, _, _, _] (M67.at 1 rfl) rfl (Nat.le_of_ble_eq_true rfl) rfl) ?_))))
          refine WS.call rfl rfl rfl (msg_Same_ran M67.here (m := m) (n := m) (A.mono M67.sub) (A.mono M67.sub) (by first | exact ⟨hp10.1, by omega, by omega⟩ | omega)) ?_
          rintro _ h68 ⟨rfl, N69⟩
          have M70 := M67.trans N69
          refine WS.op rfl rfl (WS.op rfl rfl ?_)
          cases hb5 : (sameM m m)
          · skip
            rw [sameM_self] at hb5; cases hb5
          · skip
            refine WS.call rfl rfl rfl (awake_ran M70.here ) ?_
            rintro _ h71 ⟨rfl, N72⟩
            have M73 := M70.trans N72
            refine WS.op rfl rfl (WS.op rfl rfl (WS.nil [(4, _)] rfl ?_))
            refine WC.ret ?_
            refine ⟨[_], (res_tmp rfl res_nil), ?_⟩
            rfl
        · skip
          refine WS.opV (.bool true) rfl rfl rfl (WS.op rfl rfl (WS.op rfl rfl (WS.op rfl (op_lds [_, _, _, _, _, _, _, _, _, _, _, _, _] (M67.at 1 rfl) rfl (Nat.le_of_ble_eq_true rfl) rfl) (WS.op rfl (op_lds [_, _, _, _, _, _, _, _, _, _, _, _, _] (M67.at 1 rfl) rfl (Nat.le_of_ble_eq_true rfl) rfl) ?_))))
          refine WS.call rfl rfl rfl (msg_Same_ran M67.here (m := m) (n := m) (A.mono M67.sub) (A.mono M67.sub) (by first | exact ⟨hp10.1, by omega, by omega⟩ | omega)) ?_
          rintro _ h74 ⟨rfl, N75⟩
          have M76 := M67.trans N75
          refine WS.op rfl rfl (WS.op rfl rfl ?_)
          cases hb5 : (sameM m m)
          · skip
            rw [sameM_self] at hb5; cases hb5
          · skip
            refine WS.call rfl rfl rfl (awake_ran M76.here ) ?_
            rintro _ h77 ⟨rfl, N78⟩
            have M79 := M76.trans N78
            refine WS.op rfl rfl (WS.op rfl rfl (WS.nil [(4, _)] rfl ?_))
            refine WC.ret ?_
            refine ⟨[_], (res_tmp rfl res_nil), ?_⟩
            rfl
      · skip
        exact absurd rfl e22
end Go.Proofs.Ytebgfahbhieoiaa.Wt
