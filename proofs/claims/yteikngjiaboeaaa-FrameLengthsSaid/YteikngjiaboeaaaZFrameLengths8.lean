/- The law 'FrameLengths' returns true for all arguments: what its proof stands on, part 8. -/
import Derived.Test.YteikngjiaboeaaaZFrameLengths7
namespace Go.Proofs.Yteikngjiaboeaaa.Wt
open Go Go.Proofs.Yteikngjiaboeaaa.Am Go.Proofs.Yteikngjiaboeaaa.IrAll
set_option linter.unusedVariables false
set_option linter.unusedSimpArgs false
set_option maxRecDepth 100000 in
theorem opens_32 : OpensL Try.prog 32 (α := Frm) (fun h f cs => ∃ V, cs = Frm.cells f V ∧ SlL (fun _ y cs => cs = KPart.cells y) 3 h V f.c.ps) 37 (fun f => f.c.ky.length < 9223372036854775808 ∧ f.c.va.length < 9223372036854775808 ∧ f.c.ex.length < 9223372036854775808 ∧ f.c.fr.length < 9223372036854775808 ∧ f.c.to.length < 9223372036854775808 ∧ f.c.ps.length < 9223372036854775808 ∧ ∀ z ∈ f.c.ps, z.ky.length < 9223372036854775808 ∧ z.va.length < 9223372036854775808) := by
  refine OpensL.struct (fs := [(5, 0), (23, 1), (30, 9), (26, 21)]) (L := (layP layU8 (layP (layP layU8 (layP layU8 (layP layU8 (layP layU8 (layP layU8 (layP layU8 (layP layU8 layU8))))))) (layP (fun h c cs => ∃ V, cs = Cmd.cells c V ∧ SlL (fun _ y cs => cs = KPart.cells y) 3 h V c.ps) (fun _ o cs => cs = Oper.cells o))))) (mk := fun (kd, (t0, t1, t2, t3, t4, t5, t6, t7), c, o) => ⟨kd, t0, t1, t2, t3, t4, t5, t6, t7, c, o⟩) ?_ ?_ (by kernel_rfl) (by kernel_rfl) (OpensLF.cons (by decide) (by decide) opens_5 (OpensLF.cons (by decide) (by decide) opens_23 (OpensLF.cons (by decide) (by decide) opens_30 (OpensLF.one opens_26))))
  · rintro h ⟨kd, ⟨t0, t1, t2, t3, t4, t5, t6, t7⟩, c, o⟩ cs ⟨_, _, rfl, rfl, ⟨_, _, rfl, ⟨_, _, rfl, rfl, ⟨_, _, rfl, rfl, ⟨_, _, rfl, rfl, ⟨_, _, rfl, rfl, ⟨_, _, rfl, rfl, ⟨_, _, rfl, rfl, ⟨_, _, rfl, rfl, rfl⟩⟩⟩⟩⟩⟩⟩, ⟨_, _, rfl, ⟨V, rfl, hS⟩, rfl⟩⟩⟩
    exact ⟨V, rfl, hS⟩
  · rintro ⟨kd, ⟨t0, t1, t2, t3, t4, t5, t6, t7⟩, c, o⟩ ⟨k0, k1, k2, k3⟩
    exact k2
theorem opens_54 : OpensL Try.prog 54 (laySl layStr 1) 1 (fun l => l.length < 9223372036854775808 ∧ ∀ x ∈ l, (fun a => a.length < 9223372036854775808) x) := OpensL.slice Try.underlying54 (by kernel_rfl) (by decide) opens_9
variable {h base : H} {L : List Seg} {R : List Nat}
theorem awake6_ran (W : Mem h h [] []) : Cll tab0 15 [] h (fun v h2 => v = .bool true ∧ Mem h h2 [] []) := ⟨_, h, awake_run h, rfl, W⟩
theorem Great6_ran (W : Mem h h [] []) {f : Frm} {V : Value} (A : KPart.Sl h V f.c.ps) (hl : f.c.ky.length < 9223372036854775808 ∧ f.c.va.length < 9223372036854775808 ∧ f.c.ex.length < 9223372036854775808 ∧ f.c.fr.length < 9223372036854775808 ∧ f.c.to.length < 9223372036854775808 ∧ f.c.ps.length < 9223372036854775808 ∧ ∀ z ∈ f.c.ps, z.ky.length < 9223372036854775808 ∧ z.va.length < 9223372036854775808) : Cll tab0 16 [f.val V] h (fun v h2 => (∃ g, v = .bool g ∧ (g = false → Fit f.c ∧ TightC f.c)) ∧ Mem h h2 [] []) := by
  obtain ⟨P, n, rfl⟩ := A.shape
  refine Cll.code rfl rfl ?_
  refine WC.env [(0, _)] rfl ?_
  refine WC.seq ?_
  refine WC.run ?_
  refine WS.box W [_, _, _, _, _, _, _, _, _, _, _, _, _, _, _, _, _, _, _, _, _, _, _, _, _, _, _, _, _, _, _, _, _, _, _, _, _] rfl rfl rfl rfl ?_
  intro p1 h2 M3
  refine WS.op rfl rfl (WS.nil [(1, _)] rfl ?_)
  refine WC.seq ?_
  refine WC.run ?_
  refine WS.op rfl rfl (WS.op rfl (op_lds [_, _, _, _, _, _, _, _, _, _, _, _] (M3.at 0 rfl) rfl (Nat.le_of_ble_eq_true rfl) rfl) ?_)
  refine WS.call rfl rfl rfl (Great_ran M3.here (c := f.c) (A.mono M3.sub) (by exact hl)) ?_
  rintro _ h4 ⟨⟨g5, rfl, hg5⟩, N5⟩
  have M6 := M3.trans N5
  refine WS.op rfl rfl (WS.nil [(2, _)] rfl ?_)
  refine WC.ret ?_
  refine ⟨[_], (res_tmp rfl res_nil), ?_⟩
  exact ⟨⟨g5, rfl, hg5⟩, M6.bare.take 0⟩
theorem wrF_t {f : Frm} (h : (if mayFB f then encF f else []) ≠ []) : mayFB f = true := by
  cases q : mayFB f with
  | true => rfl
  | false => rw [q] at h; exact absurd rfl h
theorem encF_ne (f : Frm) : encF f ≠ [] := by simp [encF]
theorem wrF_len {f : Frm} (ht : TightC f.c) : (if mayFB f then encF f else []).length ≤ 26100 := by
  split
  · rename_i q
    rcases of_decide_eq_true (p := MayF f) q with ⟨q1, q2, q3⟩ | ⟨q1, q2, q3⟩
    · have := encC_len q3 ht
      unfold encF; rw [tailF_1 q1]; simp only [List.length_append, List.length_cons, List.length_nil]; omega
    · have := encO_len (o := f.o)
      unfold encF; rw [tailF_2 q1]; simp only [List.length_append, List.length_cons, List.length_nil]; omega
  · simp
theorem SwC.same0 {c d : Cmd} (S : SwC c d) (h : c.op.toNat = 0) : d = c := by
  have a1 := S.op
  have a2 := S.se
  have a3 := S.sq
  have a4 := S.li
  have a5 := S.le
  have a6 := S.tt
  have a7 := S.ky (by omega)
  have a8 := S.va (by omega)
  have a9 := S.ex (by omega)
  have b1 := S.ft (by omega)
  have b2 := S.ps (by omega)
  obtain ⟨⟩ := c; obtain ⟨⟩ := d
  simp only at *
  rw [a1, a2, a3, a4, a5, a6, a7, a8, a9, b1.1, b1.2, b2]
theorem may_swapF {f : Frm} {d : Cmd} (S : SwC f.c d) : mayFB { f with c := d } = mayFB f := by
  have hz : d = zeroC ↔ f.c = zeroC := by
    constructor
    · intro e
      have h0 : f.c.op.toNat = 0 := by rw [← S.op, e]; rfl
      rw [← S.same0 h0, e]
    · intro e
      have h0 : f.c.op.toNat = 0 := by rw [e]; rfl
      rw [S.same0 h0, e]
  have hm : MayC d ↔ MayC f.c := by
    have := S.may
    unfold mayB at this
    exact decide_eq_decide.1 this
  unfold mayFB
  apply decide_eq_decide.2
  unfold MayF
  simp only
  rw [hz, hm]
theorem wrF_iff {f g : Frm} (h : mayFB g = mayFB f) : (if mayFB f then encF f else []) = [] ↔ (if mayFB g then encF g else []) = [] := by
  rw [h]
  cases mayFB f with
  | true => simp [encF_ne]
  | false => simp
set_option maxRecDepth 8000 in
theorem law_FrameLengths (W : Mem h h [] []) {f : Frm} {ts : List (List UInt8)} {a0 : List Value} {u1 : Value} (l0 : ∃ V, a0 = Frm.cells f V ∧ SlL (fun _ y cs => cs = KPart.cells y) 3 h V f.c.ps) (l1 : laySl layStr 1 h ts [u1]) (k0 : f.c.ky.length < 9223372036854775808 ∧ f.c.va.length < 9223372036854775808 ∧ f.c.ex.length < 9223372036854775808 ∧ f.c.fr.length < 9223372036854775808 ∧ f.c.to.length < 9223372036854775808 ∧ f.c.ps.length < 9223372036854775808 ∧ ∀ z ∈ f.c.ps, z.ky.length < 9223372036854775808 ∧ z.va.length < 9223372036854775808) (k1 : ts.length < 9223372036854775808 ∧ ∀ x ∈ ts, x.length < 9223372036854775808) : Cll tab0 6 [.agg a0.toArray, u1] h (fun v _ => v = .bool true) := by
  obtain ⟨V0, rfl, S0⟩ := l0
  have A : KPart.Sl h V0 f.c.ps := SlL.sl S0
  obtain ⟨P, n, rfl⟩ := A.shape
  obtain ⟨V1, e1, S1⟩ := l1
  cases e1
  have A2 : KStr.Sl h u1 ts := SlL.sl (K := KStr) S1
  obtain ⟨Pt, nt, rfl⟩ := A2.shape
  refine Cll.code rfl rfl ?_
  refine WC.env [(0, _), (1, _)] rfl ?_
  refine WC.seq ?_
  refine WC.run ?_
  refine WS.box W [_, _, _, _, _, _, _, _, _, _, _, _, _, _, _, _, _, _, _, _, _, _, _, _, _, _, _, _, _, _, _, _, _, _, _, _, _] rfl rfl rfl rfl ?_
  intro p1 h2 M3
  refine WS.op rfl rfl (WS.nil [(1, _), (2, _)] rfl ?_)
  refine WC.seq ?_
  refine WC.seq ?_
  obtain ⟨L4, eL6, M5⟩ := Mem.name M3.bare
  refine WC.joinB (base := h) (fun b => [(1, (.slice Pt ts.length nt)), (2, (.pointer (some ⟨p1, 0, none⟩))), (19, .bool b)]) L4 (True) ((Fit f.c ∧ TightC f.c) ∧ ts.length ≤ 20) ?_ ?_ ?_
  ·subst eL6
   refine WS.op rfl (op_lds [_, _, _, _, _, _, _, _, _, _, _, _, _, _, _, _, _, _, _, _, _, _, _, _, _, _, _, _, _, _, _, _, _, _, _, _, _] (M5.at 0 rfl) rfl (Nat.le_of_ble_eq_true rfl) rfl) ?_
   refine WS.call rfl rfl rfl (Great6_ran M5.here (f := f) (A.mono M5.sub) (by assumption)) ?_
   rintro _ h7 ⟨⟨g14, rfl, hg14⟩, N8⟩
   have M9 := M5.trans N8
   refine WS.op rfl rfl ?_
   cases hb1 : g14
   ·
    refine WS.op rfl rfl (WS.op rfl (op_lenVS A2 rfl) ?_)
    refine WS.gtrN (a := (ts).length) (b := 20) rfl rfl rfl (fun e18 => ?_) (fun e18 => ?_)
    ·
     refine WS.op rfl rfl ?_
     refine WS.nil' ⟨true, rfl, ((M9.bare.focus 0 rfl).take 1), fun _ => ?_, fun hh => ?_⟩
     · trivial
     · cases hh
    ·
     refine WS.op rfl rfl ?_
     refine WS.nil' ⟨false, rfl, ((M9.bare.focus 0 rfl).take 1), fun hh => ?_, fun _ => ?_⟩
     · cases hh
     · exact ⟨hg14 (by first | assumption | rfl), by omega⟩
   ·
    refine WS.off rfl (WS.off rfl (WS.off rfl (WS.op rfl rfl ?_)))
    refine WS.nil' ⟨true, rfl, ((M9.bare.focus 0 rfl).take 1), fun _ => ?_, fun hh => ?_⟩
    · trivial
    · cases hh
  ·intro h10 M11 hp19
   subst eL6
   refine WC.condT rfl ?_
   refine WC.seq ?_
   refine WC.run ?_
   refine WS.call rfl rfl rfl (awake6_ran M11.here ) ?_
   rintro _ h12 ⟨rfl, N13⟩
   have M14 := M11.trans N13
   refine WS.op rfl rfl (WS.nil [(4, _)] rfl ?_)
   refine WC.ret ?_
   refine ⟨[_], (res_tmp rfl res_nil), ?_⟩
   rfl
  ·intro h15 M16 hp19
   subst eL6
   refine WC.condF rfl ?_
   refine WC.skip ?_
   refine WC.seq ?_
   refine WC.seq ?_
   refine WC.run ?_
   refine WS.op rfl rfl (WS.nil [(1, _), (2, _), (5, _)] rfl ?_)
   refine WC.block ?_
   obtain ⟨L17, eL19, M18⟩ := Mem.name M16.bare
   refine WC.loop (σ := Nat) (fun (i) => [(1, (.slice Pt ts.length nt)), (2, (.pointer (some ⟨p1, 0, none⟩))), (5, (.int .i64 ((i : Nat) : Int)))]) (fun (i) hh => Mem h hh (L17) [] ∧ TS (ts.take i) ∧ i ≤ ts.length) (fun (i) => ts.length - i) (0) rfl ⟨M18, ?_⟩ ?_
   · exact ⟨by intro x hx; simp at hx, by omega⟩
   ·rintro i h20 ⟨M21, ⟨hO, hi1⟩⟩
    subst eL19
    refine WC.env [(1, _), (2, _), (5, _)] rfl ?_
    refine WC.seq ?_
    refine WC.seq ?_
    refine WC.run ?_
    refine WS.op rfl rfl (WS.op rfl rfl (WS.op rfl (op_lenVS A2 rfl) ?_))
    refine WS.lssN (a := i) (b := (ts).length) rfl rfl rfl (fun e24 => ?_) (fun e24 => ?_)
    ·
     refine WS.nil [(1, _), (2, _), (5, _), (24, _)] rfl ?_
     refine WC.condT rfl ?_
     refine WC.skip ?_
     refine WC.seq ?_
     refine WC.block ?_
     refine WC.seq ?_
     refine WC.run ?_
     refine WS.op rfl rfl (WS.op rfl rfl ?_)
     obtain ⟨y29, hy29⟩ : ∃ y, (ts)[i]? = some y := ⟨_, List.getElem?_eq_getElem (show i < (ts).length by first | omega | (simp only [List.length_drop, List.length_take, List.length_append, List.length_cons, List.length_nil, List.length_singleton]; omega) | (simp only [List.length_drop, List.length_take, List.length_append, List.length_cons, List.length_nil, List.length_singleton] at *; omega))⟩
     refine WS.iaVS A2 i hy29 rfl rfl rfl rfl ?_
     intro b29_ o29_ ha29
     refine WS.op rfl (op_ldH rfl (At.ld0 (ha29.mono M21.sub) rfl)) (WS.op rfl (op_lenS (l := y29) rfl) ?_)
     refine WS.gtrN (a := (y29).length) (b := 3000) rfl rfl rfl (fun e32 => ?_) (fun e32 => ?_)
     ·
      refine WS.nil [(1, _), (2, _), (5, _), (32, _)] rfl ?_
      refine WC.condT rfl ?_
      refine WC.seq ?_
      refine WC.run ?_
      refine WS.call rfl rfl rfl (awake6_ran M21.here ) ?_
      rintro _ h22 ⟨rfl, N23⟩
      have M24 := M21.trans N23
      refine WS.op rfl rfl (WS.nil [(4, _)] rfl ?_)
      refine WC.ret ?_
      refine ⟨[_], (res_tmp rfl res_nil), ?_⟩
      rfl
     ·
      refine WS.nil [(1, _), (2, _), (5, _), (32, _)] rfl ?_
      refine WC.condF rfl ?_
      refine WC.skip ?_
      refine WC.run ?_
      refine WS.op rfl rfl (WS.opV (.int .i64 (((i + 1) : Nat) : Int)) rfl rfl (add_i64 (a := i) (b := 1) (by omega)) (WS.op rfl rfl (WS.nil [(1, _), (2, _), (5, _)] rfl ?_)))
      refine ⟨i + 1, rfl, ⟨((M21.bare.focus 0 rfl).take 1), ?_⟩, ?_⟩
      · exact ⟨by intro x hx; rw [List.take_add_one, hy29] at hx; simp only [Option.toList_some, List.mem_append, List.mem_singleton] at hx; rcases hx with hx | hx; exact hO x hx; subst hx; omega, by omega⟩
      · simp only []; omega
    ·
     refine WS.nil [(1, _), (2, _), (5, _), (24, _)] rfl ?_
     refine WC.condF rfl ?_
     refine WC.exit ?_
     refine WC.seq ?_
     refine WC.run ?_
     refine WS.op rfl (op_lds [_, _, _, _, _, _, _, _, _, _, _, _, _, _, _, _, _, _, _, _, _, _, _, _, _, _, _, _, _, _, _, _, _, _, _, _, _] (M21.at 0 rfl) rfl (Nat.le_of_ble_eq_true rfl) rfl) ?_
     refine WS.new M21 rfl ?_
     intro p25 h26 M27
     refine WS.st1 (M27.focus 0 rfl) [_, _, _, _, _, _, _, _, _, _, _, _, _, _, _, _, _, _, _, _, _, _, _, _, _, _, _, _, _, _, _, _, _, _, _, _, _] [_, _, _, _, _, _, _, _, _, _, _, _, _, _, _, _, _, _, _, _, _, _, _, _, _, _, _, _, _, _, _, _, _, _, _, _, _] rfl rfl rfl rfl rfl (Nat.le_of_ble_eq_true rfl) (Nat.le_of_ble_eq_true rfl) rfl rfl ?_
     intro h28 M29
     replace M29 : Mem _ _ ([(p25, _)] :: [(p1, _)] :: []) _ := M29
     refine WS.nil [(1, _), (2, _), (6, _)] rfl ?_
     refine WC.seq ?_
     refine WC.run ?_
     refine WS.op rfl rfl (WS.op rfl (op_lds [_, _, _, _, _, _, _, _, _, _, _, _] (M29.at 1 rfl) rfl (Nat.le_of_ble_eq_true rfl) rfl) (WS.op rfl rfl ?_))
     refine WS.call rfl rfl rfl (Swap_ran M29.here (c := f.c) (A.mono M29.sub) (A2.mono M29.sub) (by exact hp19.1.2) (by rw [List.take_of_length_le (by omega)] at hO; exact hO)) ?_
     rintro _ h30 ⟨d38, _, rfl, hS38, (⟨rfl, hps38, N31⟩ | ⟨p33, n34, rfl, N31⟩)⟩
     ·
      have M32 := M29.trans N31
      have A38 : KPart.Sl h (.slice P f.c.ps.length n) d38.ps := by rw [hps38]; exact A
      refine WS.op rfl rfl ?_
      refine WS.st1 (M32.focus 0 rfl) [_, _, _, _, _, _, _, _, _, _, _, _] [_, _, _, _, _, _, _, _, _, _, _, _, _, _, _, _, _, _, _, _, _, _, _, _, _, _, _, _, _, _, _, _, _, _, _, _, _] rfl rfl rfl rfl rfl (Nat.le_of_ble_eq_true rfl) (Nat.le_of_ble_eq_true rfl) rfl rfl ?_
      intro h35 M36
      replace M36 : Mem _ _ ([(p25, _)] :: [(p1, _)] :: []) _ := M36
      refine WS.nil [(2, _), (6, _)] rfl ?_
      refine WC.seq ?_
      refine WC.run ?_
      refine WS.op rfl (op_lds [_, _, _, _, _, _, _, _, _, _, _, _, _, _, _, _, _, _, _, _, _, _, _, _, _, _, _, _, _, _, _, _, _, _, _, _, _] (M36.at 1 rfl) rfl (Nat.le_of_ble_eq_true rfl) rfl) ?_
      refine WS.call rfl rfl rfl (WriteF_ran M36.here (f := f) (A.mono M36.sub) (by first | exact hp19.1.1 | exact hS38.tight.fit)) ?_
      rintro _ h37 ⟨rfl, N38⟩
      have M39 := M36.trans N38
      refine WS.op rfl rfl (WS.nil [(2, _), (6, _), (7, _)] rfl ?_)
      refine WC.seq ?_
      refine WC.run ?_
      refine WS.op rfl (op_lds [_, _, _, _, _, _, _, _, _, _, _, _, _, _, _, _, _, _, _, _, _, _, _, _, _, _, _, _, _, _, _, _, _, _, _, _, _] (M39.at 0 rfl) rfl (Nat.le_of_ble_eq_true rfl) rfl) ?_
      refine WS.call rfl rfl rfl (WriteF_ran M39.here (f := (⟨f.kd, f.t0, f.t1, f.t2, f.t3, f.t4, f.t5, f.t6, f.t7, d38, f.o⟩ : Frm)) (A38.mono M39.sub) (by first | exact hp19.1.1 | exact hS38.tight.fit)) ?_
      rintro _ h40 ⟨rfl, N41⟩
      have M42 := M39.trans N41
      refine WS.op rfl rfl (WS.nil [(2, _), (6, _), (7, _), (8, _)] rfl ?_)
      refine WC.seq ?_
      refine WC.seq ?_
      refine WC.run ?_
      have hmm : mayFB (⟨f.kd, f.t0, f.t1, f.t2, f.t3, f.t4, f.t5, f.t6, f.t7, d38, f.o⟩ : Frm) = mayFB f := may_swapF hS38
      have hW := wrF_iff hmm
      refine WS.op rfl rfl ?_
      refine WS.seql (l := (if mayFB f then encF f else [])) (m := []) rfl rfl rfl (fun e45 => ?_) (fun e45 => ?_)
      ·
       refine WS.op rfl rfl ?_
       refine WS.seql (l := (if mayFB (⟨f.kd, f.t0, f.t1, f.t2, f.t3, f.t4, f.t5, f.t6, f.t7, d38, f.o⟩ : Frm) then encF (⟨f.kd, f.t0, f.t1, f.t2, f.t3, f.t4, f.t5, f.t6, f.t7, d38, f.o⟩ : Frm) else [])) (m := []) rfl rfl rfl (fun e47 => ?_) (fun e47 => ?_)
       ·
        refine WS.opV (.bool false) rfl rfl rfl (WS.nil [(2, _), (6, _), (7, _), (8, _), (48, _)] rfl ?_)
        refine WC.condF rfl ?_
        refine WC.skip ?_
        refine WC.seq ?_
        refine WC.seq ?_
        refine WC.run ?_
        refine WS.op rfl rfl ?_
        refine WS.seql (l := (if mayFB f then encF f else [])) (m := []) rfl rfl rfl (fun e50 => ?_) (fun e50 => ?_)
        ·
         refine WS.nil [(2, _), (6, _), (7, _), (8, _), (50, _)] rfl ?_
         refine WC.condT rfl ?_
         refine WC.seq ?_
         refine WC.run ?_
         refine WS.call rfl rfl rfl (awake6_ran M42.here ) ?_
         rintro _ h43 ⟨rfl, N44⟩
         have M45 := M42.trans N44
         refine WS.op rfl rfl (WS.nil [(4, _)] rfl ?_)
         refine WC.ret ?_
         refine ⟨[_], (res_tmp rfl res_nil), ?_⟩
         rfl
        ·
         exact absurd e45 e50
       ·
        refine WS.opV (.bool true) rfl rfl rfl (WS.nil [(2, _), (6, _), (7, _), (8, _), (48, _)] rfl ?_)
        refine WC.condT rfl ?_
        refine WC.seq ?_
        refine WC.run ?_
        refine WS.op rfl rfl (WS.nil [(4, _)] rfl ?_)
        refine WC.ret ?_
        refine ⟨[_], (res_tmp rfl res_nil), ?_⟩
        exfalso; first | exact absurd (hW.1 e45) e47 | exact absurd (hW.2 e47) e45 | exact absurd (encF_pf f (⟨f.kd, f.t0, f.t1, f.t2, f.t3, f.t4, f.t5, f.t6, f.t7, d38, f.o⟩ : Frm) [] [] hG hGg (by rw [← hE, ← hEg, e79])).1 (of_decide_eq_false (by assumption)) | exact absurd (show (if mayFB f then encF f else []) = (if mayFB (⟨f.kd, f.t0, f.t1, f.t2, f.t3, f.t4, f.t5, f.t6, f.t7, d38, f.o⟩ : Frm) then encF (⟨f.kd, f.t0, f.t1, f.t2, f.t3, f.t4, f.t5, f.t6, f.t7, d38, f.o⟩ : Frm) else []) by rw [← of_decide_eq_true (p := f = (⟨f.kd, f.t0, f.t1, f.t2, f.t3, f.t4, f.t5, f.t6, f.t7, d38, f.o⟩ : Frm)) (by assumption)]) e79
      ·
       refine WS.op rfl rfl ?_
       refine WS.seql (l := (if mayFB (⟨f.kd, f.t0, f.t1, f.t2, f.t3, f.t4, f.t5, f.t6, f.t7, d38, f.o⟩ : Frm) then encF (⟨f.kd, f.t0, f.t1, f.t2, f.t3, f.t4, f.t5, f.t6, f.t7, d38, f.o⟩ : Frm) else [])) (m := []) rfl rfl rfl (fun e47 => ?_) (fun e47 => ?_)
       ·
        refine WS.opV (.bool true) rfl rfl rfl (WS.nil [(2, _), (6, _), (7, _), (8, _), (48, _)] rfl ?_)
        refine WC.condT rfl ?_
        refine WC.seq ?_
        refine WC.run ?_
        refine WS.op rfl rfl (WS.nil [(4, _)] rfl ?_)
        refine WC.ret ?_
        refine ⟨[_], (res_tmp rfl res_nil), ?_⟩
        exfalso; first | exact absurd (hW.1 e45) e47 | exact absurd (hW.2 e47) e45 | exact absurd (encF_pf f (⟨f.kd, f.t0, f.t1, f.t2, f.t3, f.t4, f.t5, f.t6, f.t7, d38, f.o⟩ : Frm) [] [] hG hGg (by rw [← hE, ← hEg, e79])).1 (of_decide_eq_false (by assumption)) | exact absurd (show (if mayFB f then encF f else []) = (if mayFB (⟨f.kd, f.t0, f.t1, f.t2, f.t3, f.t4, f.t5, f.t6, f.t7, d38, f.o⟩ : Frm) then encF (⟨f.kd, f.t0, f.t1, f.t2, f.t3, f.t4, f.t5, f.t6, f.t7, d38, f.o⟩ : Frm) else []) by rw [← of_decide_eq_true (p := f = (⟨f.kd, f.t0, f.t1, f.t2, f.t3, f.t4, f.t5, f.t6, f.t7, d38, f.o⟩ : Frm)) (by assumption)]) e79
       ·
        refine WS.opV (.bool false) rfl rfl rfl (WS.nil [(2, _), (6, _), (7, _), (8, _), (48, _)] rfl ?_)
        refine WC.condF rfl ?_
        refine WC.skip ?_
        refine WC.seq ?_
        refine WC.seq ?_
        refine WC.run ?_
        refine WS.op rfl rfl ?_
        refine WS.seql (l := (if mayFB f then encF f else [])) (m := []) rfl rfl rfl (fun e50 => ?_) (fun e50 => ?_)
        ·
         exact absurd e50 e45
        ·
         refine WS.nil [(2, _), (6, _), (7, _), (8, _), (50, _)] rfl ?_
         refine WC.condF rfl ?_
         refine WC.skip ?_
         refine WC.seq ?_
         refine WC.run ?_
         have hwf := wrF_len hp19.1.2
         have hwg := wrF_len (f := (⟨f.kd, f.t0, f.t1, f.t2, f.t3, f.t4, f.t5, f.t6, f.t7, d38, f.o⟩ : Frm)) hS38.tight
         refine WS.op rfl rfl ?_
         refine WS.call rfl rfl rfl (ReadF_ran M42.here (s := (if mayFB f then encF f else [])) (by omega)) ?_
         rintro _ h46 ⟨f54, V49, S50, ok54, O51, rfl, hF54, hC54, N47⟩
         obtain ⟨P52, rfl⟩ := O51.shape
         have M48 := M42.trans N47
         replace M48 : Mem _ _ (S50 :: [(p25, _)] :: [(p1, _)] :: []) _ := M48
         refine WS.op rfl rfl (WS.op rfl rfl (WS.op rfl rfl ?_))
         refine WS.new M48 rfl ?_
         intro p53 h54 M55
         refine WS.st1 (M55.focus 0 rfl) [_, _, _, _, _, _, _, _, _, _, _, _, _, _, _, _, _, _, _, _, _, _, _, _, _, _, _, _, _, _, _, _, _, _, _, _, _] [_, _, _, _, _, _, _, _, _, _, _, _, _, _, _, _, _, _, _, _, _, _, _, _, _, _, _, _, _, _, _, _, _, _, _, _, _] rfl rfl rfl rfl rfl (Nat.le_of_ble_eq_true rfl) (Nat.le_of_ble_eq_true rfl) rfl rfl ?_
         intro h56 M57
         replace M57 : Mem _ _ ([(p53, _)] :: S50 :: [(p25, _)] :: [(p1, _)] :: []) _ := M57
         refine WS.op rfl rfl (WS.nil [(2, _), (6, _), (7, _), (8, _), (9, _), (10, _)] rfl ?_)
         refine WC.seq ?_
         refine WC.run ?_
         refine WS.op rfl rfl ?_
         refine WS.call rfl rfl rfl (ReadF_ran M57.here (s := (if mayFB (⟨f.kd, f.t0, f.t1, f.t2, f.t3, f.t4, f.t5, f.t6, f.t7, d38, f.o⟩ : Frm) then encF (⟨f.kd, f.t0, f.t1, f.t2, f.t3, f.t4, f.t5, f.t6, f.t7, d38, f.o⟩ : Frm) else [])) (by omega)) ?_
         rintro _ h58 ⟨f59, V61, S62, ok59, O63, rfl, hF59, hC59, N59⟩
         obtain ⟨P64, rfl⟩ := O63.shape
         have M60 := M57.trans N59
         replace M60 : Mem _ _ (S62 :: [(p53, _)] :: S50 :: [(p25, _)] :: [(p1, _)] :: []) _ := M60
         refine WS.op rfl rfl (WS.op rfl rfl (WS.op rfl rfl ?_))
         refine WS.new M60 rfl ?_
         intro p65 h66 M67
         refine WS.st1 (M67.focus 0 rfl) [_, _, _, _, _, _, _, _, _, _, _, _, _, _, _, _, _, _, _, _, _, _, _, _, _, _, _, _, _, _, _, _, _, _, _, _, _] [_, _, _, _, _, _, _, _, _, _, _, _, _, _, _, _, _, _, _, _, _, _, _, _, _, _, _, _, _, _, _, _, _, _, _, _, _] rfl rfl rfl rfl rfl (Nat.le_of_ble_eq_true rfl) (Nat.le_of_ble_eq_true rfl) rfl rfl ?_
         intro h68 M69
         replace M69 : Mem _ _ ([(p65, _)] :: S62 :: [(p53, _)] :: S50 :: [(p25, _)] :: [(p1, _)] :: []) _ := M69
         refine WS.op rfl rfl (WS.nil [(2, _), (6, _), (7, _), (8, _), (9, _), (10, _), (11, _), (12, _)] rfl ?_)
         refine WC.seq ?_
         refine WC.run ?_
         have hM := wrF_t e45
         have hMg : mayFB (⟨f.kd, f.t0, f.t1, f.t2, f.t3, f.t4, f.t5, f.t6, f.t7, d38, f.o⟩ : Frm) = true := by rw [hmm]; exact hM
         have hE : (if mayFB f then encF f else []) = encF f := if_pos hM
         have hEg : (if mayFB (⟨f.kd, f.t0, f.t1, f.t2, f.t3, f.t4, f.t5, f.t6, f.t7, d38, f.o⟩ : Frm) then encF (⟨f.kd, f.t0, f.t1, f.t2, f.t3, f.t4, f.t5, f.t6, f.t7, d38, f.o⟩ : Frm) else []) = encF (⟨f.kd, f.t0, f.t1, f.t2, f.t3, f.t4, f.t5, f.t6, f.t7, d38, f.o⟩ : Frm) := if_pos hMg
         have hG : GoodF f := ⟨of_decide_eq_true hM, hp19.1.1⟩
         have hGg : GoodF (⟨f.kd, f.t0, f.t1, f.t2, f.t3, f.t4, f.t5, f.t6, f.t7, d38, f.o⟩ : Frm) := ⟨of_decide_eq_true hMg, hS38.tight.fit⟩
         rw [hE] at hC54
         rw [hEg] at hC59
         obtain ⟨f1, f2⟩ := rd_self encF_pf hG hC54
         obtain ⟨f3, f4⟩ := rd_self encF_pf hGg hC59
         refine WS.op rfl rfl (WS.op rfl rfl ?_)
         cases hb2 : ok54
         ·
          rw [f1] at hb2; cases hb2
         ·
          refine WS.op rfl rfl (WS.op rfl rfl (WS.op rfl rfl ?_))
          cases hb3 : ok59
          ·
           rw [f3] at hb3; cases hb3
          ·
           refine WS.op rfl (op_lds [_, _, _, _, _, _, _, _, _, _, _, _, _, _, _, _, _, _, _, _, _, _, _, _, _, _, _, _, _, _, _, _, _, _, _, _, _] (M69.at 2 rfl) rfl (Nat.le_of_ble_eq_true rfl) rfl) (WS.op rfl (op_lds [_, _, _, _, _, _, _, _, _, _, _, _, _, _, _, _, _, _, _, _, _, _, _, _, _, _, _, _, _, _, _, _, _, _, _, _, _] (M69.at 5 rfl) rfl (Nat.le_of_ble_eq_true rfl) rfl) ?_)
           refine WS.call rfl rfl rfl (SameF_ran M69.here (a := f54) (b := f) (Row.Own.sl O51 (Mem.owni M69 3 rfl)) (A.mono M69.sub) (by first | (have := hF54.2.2.2.2.2.1; omega) | (have := hF59.2.2.2.2.2.1; omega) | (have := hp19.1.1.2.2.2.2.2.1; omega))) ?_
           rintro _ h70 ⟨rfl, N71⟩
           have M72 := M69.trans N71
           refine WS.op rfl rfl (WS.op rfl rfl ?_)
           cases hb4 : (decide (f54 = f))
           ·
            exact absurd f2 (of_decide_eq_false hb4)
           ·
            refine WS.op rfl (op_lds [_, _, _, _, _, _, _, _, _, _, _, _, _, _, _, _, _, _, _, _, _, _, _, _, _, _, _, _, _, _, _, _, _, _, _, _, _] (M72.at 0 rfl) rfl (Nat.le_of_ble_eq_true rfl) rfl) (WS.op rfl (op_lds [_, _, _, _, _, _, _, _, _, _, _, _, _, _, _, _, _, _, _, _, _, _, _, _, _, _, _, _, _, _, _, _, _, _, _, _, _] (M72.at 4 rfl) rfl (Nat.le_of_ble_eq_true rfl) rfl) ?_)
            refine WS.call rfl rfl rfl (SameF_ran M72.here (a := f59) (b := (⟨f.kd, f.t0, f.t1, f.t2, f.t3, f.t4, f.t5, f.t6, f.t7, d38, f.o⟩ : Frm)) (Row.Own.sl O63 (Mem.owni M72 1 rfl)) (A38.mono M72.sub) (by first | (have := hF54.2.2.2.2.2.1; omega) | (have := hF59.2.2.2.2.2.1; omega) | (have := hp19.1.1.2.2.2.2.2.1; omega))) ?_
            rintro _ h73 ⟨rfl, N74⟩
            have M75 := M72.trans N74
            refine WS.op rfl rfl (WS.op rfl rfl ?_)
            cases hb5 : (decide (f59 = (⟨f.kd, f.t0, f.t1, f.t2, f.t3, f.t4, f.t5, f.t6, f.t7, d38, f.o⟩ : Frm)))
            ·
             exact absurd f4 (of_decide_eq_false hb5)
            ·
             refine WS.op rfl rfl (WS.op rfl rfl ?_)
             refine WS.seql (l := (if mayFB f then encF f else [])) (m := (if mayFB (⟨f.kd, f.t0, f.t1, f.t2, f.t3, f.t4, f.t5, f.t6, f.t7, d38, f.o⟩ : Frm) then encF (⟨f.kd, f.t0, f.t1, f.t2, f.t3, f.t4, f.t5, f.t6, f.t7, d38, f.o⟩ : Frm) else [])) rfl rfl rfl (fun e79 => ?_) (fun e79 => ?_)
             ·
              refine WS.op rfl (op_lds [_, _, _, _, _, _, _, _, _, _, _, _, _, _, _, _, _, _, _, _, _, _, _, _, _, _, _, _, _, _, _, _, _, _, _, _, _] (M75.at 5 rfl) rfl (Nat.le_of_ble_eq_true rfl) rfl) (WS.op rfl (op_lds [_, _, _, _, _, _, _, _, _, _, _, _, _, _, _, _, _, _, _, _, _, _, _, _, _, _, _, _, _, _, _, _, _, _, _, _, _] (M75.at 4 rfl) rfl (Nat.le_of_ble_eq_true rfl) rfl) ?_)
              refine WS.call rfl rfl rfl (SameF_ran M75.here (a := f) (b := (⟨f.kd, f.t0, f.t1, f.t2, f.t3, f.t4, f.t5, f.t6, f.t7, d38, f.o⟩ : Frm)) (A.mono M75.sub) (A38.mono M75.sub) (by first | (have := hF54.2.2.2.2.2.1; omega) | (have := hF59.2.2.2.2.2.1; omega) | (have := hp19.1.1.2.2.2.2.2.1; omega))) ?_
              rintro _ h76 ⟨rfl, N77⟩
              have M78 := M75.trans N77
              cases hb6 : (decide (f = (⟨f.kd, f.t0, f.t1, f.t2, f.t3, f.t4, f.t5, f.t6, f.t7, d38, f.o⟩ : Frm)))
              ·
               refine WS.opV (.bool false) rfl rfl rfl (WS.op rfl rfl (WS.op rfl rfl (WS.offC rfl (WS.op rfl rfl (WS.op rfl rfl (WS.nil [(4, _)] rfl ?_))))))
               refine WC.ret ?_
               refine ⟨[_], (res_tmp rfl res_nil), ?_⟩
               exfalso; first | exact absurd (hW.1 e45) e47 | exact absurd (hW.2 e47) e45 | exact absurd (encF_pf f (⟨f.kd, f.t0, f.t1, f.t2, f.t3, f.t4, f.t5, f.t6, f.t7, d38, f.o⟩ : Frm) [] [] hG hGg (by rw [← hE, ← hEg, e79])).1 (of_decide_eq_false (by assumption)) | exact absurd (show (if mayFB f then encF f else []) = (if mayFB (⟨f.kd, f.t0, f.t1, f.t2, f.t3, f.t4, f.t5, f.t6, f.t7, d38, f.o⟩ : Frm) then encF (⟨f.kd, f.t0, f.t1, f.t2, f.t3, f.t4, f.t5, f.t6, f.t7, d38, f.o⟩ : Frm) else []) by rw [← of_decide_eq_true (p := f = (⟨f.kd, f.t0, f.t1, f.t2, f.t3, f.t4, f.t5, f.t6, f.t7, d38, f.o⟩ : Frm)) (by assumption)]) e79
              ·
               refine WS.opV (.bool true) rfl rfl rfl (WS.op rfl rfl (WS.op rfl rfl ?_))
               refine WS.call rfl rfl rfl (awake6_ran M78.here ) ?_
               rintro _ h79 ⟨rfl, N80⟩
               have M81 := M78.trans N80
               refine WS.op rfl rfl (WS.op rfl rfl (WS.nil [(4, _)] rfl ?_))
               refine WC.ret ?_
               refine ⟨[_], (res_tmp rfl res_nil), ?_⟩
               rfl
             ·
              refine WS.op rfl (op_lds [_, _, _, _, _, _, _, _, _, _, _, _, _, _, _, _, _, _, _, _, _, _, _, _, _, _, _, _, _, _, _, _, _, _, _, _, _] (M75.at 5 rfl) rfl (Nat.le_of_ble_eq_true rfl) rfl) (WS.op rfl (op_lds [_, _, _, _, _, _, _, _, _, _, _, _, _, _, _, _, _, _, _, _, _, _, _, _, _, _, _, _, _, _, _, _, _, _, _, _, _] (M75.at 4 rfl) rfl (Nat.le_of_ble_eq_true rfl) rfl) ?_)
              refine WS.call rfl rfl rfl (SameF_ran M75.here (a := f) (b := (⟨f.kd, f.t0, f.t1, f.t2, f.t3, f.t4, f.t5, f.t6, f.t7, d38, f.o⟩ : Frm)) (A.mono M75.sub) (A38.mono M75.sub) (by first | (have := hF54.2.2.2.2.2.1; omega) | (have := hF59.2.2.2.2.2.1; omega) | (have := hp19.1.1.2.2.2.2.2.1; omega))) ?_
              rintro _ h82 ⟨rfl, N83⟩
              have M84 := M75.trans N83
              cases hb6 : (decide (f = (⟨f.kd, f.t0, f.t1, f.t2, f.t3, f.t4, f.t5, f.t6, f.t7, d38, f.o⟩ : Frm)))
              ·
               refine WS.opV (.bool true) rfl rfl rfl (WS.op rfl rfl (WS.op rfl rfl ?_))
               refine WS.call rfl rfl rfl (awake6_ran M84.here ) ?_
               rintro _ h85 ⟨rfl, N86⟩
               have M87 := M84.trans N86
               refine WS.op rfl rfl (WS.op rfl rfl (WS.nil [(4, _)] rfl ?_))
               refine WC.ret ?_
               refine ⟨[_], (res_tmp rfl res_nil), ?_⟩
               rfl
              ·
               refine WS.opV (.bool false) rfl rfl rfl (WS.op rfl rfl (WS.op rfl rfl (WS.offC rfl (WS.op rfl rfl (WS.op rfl rfl (WS.nil [(4, _)] rfl ?_))))))
               refine WC.ret ?_
               refine ⟨[_], (res_tmp rfl res_nil), ?_⟩
               exfalso; first | exact absurd (hW.1 e45) e47 | exact absurd (hW.2 e47) e45 | exact absurd (encF_pf f (⟨f.kd, f.t0, f.t1, f.t2, f.t3, f.t4, f.t5, f.t6, f.t7, d38, f.o⟩ : Frm) [] [] hG hGg (by rw [← hE, ← hEg, e79])).1 (of_decide_eq_false (by assumption)) | exact absurd (show (if mayFB f then encF f else []) = (if mayFB (⟨f.kd, f.t0, f.t1, f.t2, f.t3, f.t4, f.t5, f.t6, f.t7, d38, f.o⟩ : Frm) then encF (⟨f.kd, f.t0, f.t1, f.t2, f.t3, f.t4, f.t5, f.t6, f.t7, d38, f.o⟩ : Frm) else []) by rw [← of_decide_eq_true (p := f = (⟨f.kd, f.t0, f.t1, f.t2, f.t3, f.t4, f.t5, f.t6, f.t7, d38, f.o⟩ : Frm)) (by assumption)]) e79
     ·
      have M32 := M29.trans N31
      replace M32 : Mem _ _ ([(p33, ⟨KPart.flat d38.ps, 3, false⟩)] :: [(p25, _)] :: [(p1, _)] :: []) _ := M32
      refine WS.op rfl rfl ?_
      refine WS.st1 (M32.focus 1 rfl) [_, _, _, _, _, _, _, _, _, _, _, _] [_, _, _, _, _, _, _, _, _, _, _, _, _, _, _, _, _, _, _, _, _, _, _, _, _, _, _, _, _, _, _, _, _, _, _, _, _] rfl rfl rfl rfl rfl (Nat.le_of_ble_eq_true rfl) (Nat.le_of_ble_eq_true rfl) rfl rfl ?_
      intro h88 M89
      replace M89 : Mem _ _ ([(p25, _)] :: [(p33, ⟨KPart.flat d38.ps, 3, false⟩)] :: [(p1, _)] :: []) _ := M89
      refine WS.nil [(2, _), (6, _)] rfl ?_
      refine WC.seq ?_
      refine WC.run ?_
      refine WS.op rfl (op_lds [_, _, _, _, _, _, _, _, _, _, _, _, _, _, _, _, _, _, _, _, _, _, _, _, _, _, _, _, _, _, _, _, _, _, _, _, _] (M89.at 2 rfl) rfl (Nat.le_of_ble_eq_true rfl) rfl) ?_
      refine WS.call rfl rfl rfl (WriteF_ran M89.here (f := f) (A.mono M89.sub) (by first | exact hp19.1.1 | exact hS38.tight.fit)) ?_
      rintro _ h90 ⟨rfl, N91⟩
      have M92 := M89.trans N91
      refine WS.op rfl rfl (WS.nil [(2, _), (6, _), (7, _)] rfl ?_)
      refine WC.seq ?_
      refine WC.run ?_
      refine WS.op rfl (op_lds [_, _, _, _, _, _, _, _, _, _, _, _, _, _, _, _, _, _, _, _, _, _, _, _, _, _, _, _, _, _, _, _, _, _, _, _, _] (M92.at 0 rfl) rfl (Nat.le_of_ble_eq_true rfl) rfl) ?_
      refine WS.call rfl rfl rfl (WriteF_ran M92.here (f := (⟨f.kd, f.t0, f.t1, f.t2, f.t3, f.t4, f.t5, f.t6, f.t7, d38, f.o⟩ : Frm)) (held_flat (K := KPart) (l := d38.ps) _ (Mem.owni M92 1 rfl)) (by first | exact hp19.1.1 | exact hS38.tight.fit)) ?_
      rintro _ h93 ⟨rfl, N94⟩
      have M95 := M92.trans N94
      refine WS.op rfl rfl (WS.nil [(2, _), (6, _), (7, _), (8, _)] rfl ?_)
      refine WC.seq ?_
      refine WC.seq ?_
      refine WC.run ?_
      have hmm : mayFB (⟨f.kd, f.t0, f.t1, f.t2, f.t3, f.t4, f.t5, f.t6, f.t7, d38, f.o⟩ : Frm) = mayFB f := may_swapF hS38
      have hW := wrF_iff hmm
      refine WS.op rfl rfl ?_
      refine WS.seql (l := (if mayFB f then encF f else [])) (m := []) rfl rfl rfl (fun e45 => ?_) (fun e45 => ?_)
      ·
       refine WS.op rfl rfl ?_
       refine WS.seql (l := (if mayFB (⟨f.kd, f.t0, f.t1, f.t2, f.t3, f.t4, f.t5, f.t6, f.t7, d38, f.o⟩ : Frm) then encF (⟨f.kd, f.t0, f.t1, f.t2, f.t3, f.t4, f.t5, f.t6, f.t7, d38, f.o⟩ : Frm) else [])) (m := []) rfl rfl rfl (fun e47 => ?_) (fun e47 => ?_)
       ·
        refine WS.opV (.bool false) rfl rfl rfl (WS.nil [(2, _), (6, _), (7, _), (8, _), (48, _)] rfl ?_)
        refine WC.condF rfl ?_
        refine WC.skip ?_
        refine WC.seq ?_
        refine WC.seq ?_
        refine WC.run ?_
        refine WS.op rfl rfl ?_
        refine WS.seql (l := (if mayFB f then encF f else [])) (m := []) rfl rfl rfl (fun e50 => ?_) (fun e50 => ?_)
        ·
         refine WS.nil [(2, _), (6, _), (7, _), (8, _), (50, _)] rfl ?_
         refine WC.condT rfl ?_
         refine WC.seq ?_
         refine WC.run ?_
         refine WS.call rfl rfl rfl (awake6_ran M95.here ) ?_
         rintro _ h96 ⟨rfl, N97⟩
         have M98 := M95.trans N97
         refine WS.op rfl rfl (WS.nil [(4, _)] rfl ?_)
         refine WC.ret ?_
         refine ⟨[_], (res_tmp rfl res_nil), ?_⟩
         rfl
        ·
         exact absurd e45 e50
       ·
        refine WS.opV (.bool true) rfl rfl rfl (WS.nil [(2, _), (6, _), (7, _), (8, _), (48, _)] rfl ?_)
        refine WC.condT rfl ?_
        refine WC.seq ?_
        refine WC.run ?_
        refine WS.op rfl rfl (WS.nil [(4, _)] rfl ?_)
        refine WC.ret ?_
        refine ⟨[_], (res_tmp rfl res_nil), ?_⟩
        exfalso; first | exact absurd (hW.1 e45) e47 | exact absurd (hW.2 e47) e45 | exact absurd (encF_pf f (⟨f.kd, f.t0, f.t1, f.t2, f.t3, f.t4, f.t5, f.t6, f.t7, d38, f.o⟩ : Frm) [] [] hG hGg (by rw [← hE, ← hEg, e79])).1 (of_decide_eq_false (by assumption)) | exact absurd (show (if mayFB f then encF f else []) = (if mayFB (⟨f.kd, f.t0, f.t1, f.t2, f.t3, f.t4, f.t5, f.t6, f.t7, d38, f.o⟩ : Frm) then encF (⟨f.kd, f.t0, f.t1, f.t2, f.t3, f.t4, f.t5, f.t6, f.t7, d38, f.o⟩ : Frm) else []) by rw [← of_decide_eq_true (p := f = (⟨f.kd, f.t0, f.t1, f.t2, f.t3, f.t4, f.t5, f.t6, f.t7, d38, f.o⟩ : Frm)) (by assumption)]) e79
      ·
       refine WS.op rfl rfl ?_
       refine WS.seql (l := (if mayFB (⟨f.kd, f.t0, f.t1, f.t2, f.t3, f.t4, f.t5, f.t6, f.t7, d38, f.o⟩ : Frm) then encF (⟨f.kd, f.t0, f.t1, f.t2, f.t3, f.t4, f.t5, f.t6, f.t7, d38, f.o⟩ : Frm) else [])) (m := []) rfl rfl rfl (fun e47 => ?_) (fun e47 => ?_)
       ·
        refine WS.opV (.bool true) rfl rfl rfl (WS.nil [(2, _), (6, _), (7, _), (8, _), (48, _)] rfl ?_)
        refine WC.condT rfl ?_
        refine WC.seq ?_
        refine WC.run ?_
        refine WS.op rfl rfl (WS.nil [(4, _)] rfl ?_)
        refine WC.ret ?_
        refine ⟨[_], (res_tmp rfl res_nil), ?_⟩
        exfalso; first | exact absurd (hW.1 e45) e47 | exact absurd (hW.2 e47) e45 | exact absurd (encF_pf f (⟨f.kd, f.t0, f.t1, f.t2, f.t3, f.t4, f.t5, f.t6, f.t7, d38, f.o⟩ : Frm) [] [] hG hGg (by rw [← hE, ← hEg, e79])).1 (of_decide_eq_false (by assumption)) | exact absurd (show (if mayFB f then encF f else []) = (if mayFB (⟨f.kd, f.t0, f.t1, f.t2, f.t3, f.t4, f.t5, f.t6, f.t7, d38, f.o⟩ : Frm) then encF (⟨f.kd, f.t0, f.t1, f.t2, f.t3, f.t4, f.t5, f.t6, f.t7, d38, f.o⟩ : Frm) else []) by rw [← of_decide_eq_true (p := f = (⟨f.kd, f.t0, f.t1, f.t2, f.t3, f.t4, f.t5, f.t6, f.t7, d38, f.o⟩ : Frm)) (by assumption)]) e79
       ·
        refine WS.opV (.bool false) rfl rfl rfl (WS.nil [(2, _), (6, _), (7, _), (8, _), (48, _)] rfl ?_)
        refine WC.condF rfl ?_
        refine WC.skip ?_
        refine WC.seq ?_
        refine WC.seq ?_
        refine WC.run ?_
        refine WS.op rfl rfl ?_
        refine WS.seql (l := (if mayFB f then encF f else [])) (m := []) rfl rfl rfl (fun e50 => ?_) (fun e50 => ?_)
        ·
         exact absurd e50 e45
        ·
         refine WS.nil [(2, _), (6, _), (7, _), (8, _), (50, _)] rfl ?_
         refine WC.condF rfl ?_
         refine WC.skip ?_
         refine WC.seq ?_
         refine WC.run ?_
         have hwf := wrF_len hp19.1.2
         have hwg := wrF_len (f := (⟨f.kd, f.t0, f.t1, f.t2, f.t3, f.t4, f.t5, f.t6, f.t7, d38, f.o⟩ : Frm)) hS38.tight
         refine WS.op rfl rfl ?_
         refine WS.call rfl rfl rfl (ReadF_ran M95.here (s := (if mayFB f then encF f else [])) (by omega)) ?_
         rintro _ h99 ⟨f54, V102, S103, ok54, O104, rfl, hF54, hC54, N100⟩
         obtain ⟨P105, rfl⟩ := O104.shape
         have M101 := M95.trans N100
         replace M101 : Mem _ _ (S103 :: [(p25, _)] :: [(p33, ⟨KPart.flat d38.ps, 3, false⟩)] :: [(p1, _)] :: []) _ := M101
         refine WS.op rfl rfl (WS.op rfl rfl (WS.op rfl rfl ?_))
         refine WS.new M101 rfl ?_
         intro p106 h107 M108
         refine WS.st1 (M108.focus 0 rfl) [_, _, _, _, _, _, _, _, _, _, _, _, _, _, _, _, _, _, _, _, _, _, _, _, _, _, _, _, _, _, _, _, _, _, _, _, _] [_, _, _, _, _, _, _, _, _, _, _, _, _, _, _, _, _, _, _, _, _, _, _, _, _, _, _, _, _, _, _, _, _, _, _, _, _] rfl rfl rfl rfl rfl (Nat.le_of_ble_eq_true rfl) (Nat.le_of_ble_eq_true rfl) rfl rfl ?_
         intro h109 M110
         replace M110 : Mem _ _ ([(p106, _)] :: S103 :: [(p25, _)] :: [(p33, ⟨KPart.flat d38.ps, 3, false⟩)] :: [(p1, _)] :: []) _ := M110
         refine WS.op rfl rfl (WS.nil [(2, _), (6, _), (7, _), (8, _), (9, _), (10, _)] rfl ?_)
         refine WC.seq ?_
         refine WC.run ?_
         refine WS.op rfl rfl ?_
         refine WS.call rfl rfl rfl (ReadF_ran M110.here (s := (if mayFB (⟨f.kd, f.t0, f.t1, f.t2, f.t3, f.t4, f.t5, f.t6, f.t7, d38, f.o⟩ : Frm) then encF (⟨f.kd, f.t0, f.t1, f.t2, f.t3, f.t4, f.t5, f.t6, f.t7, d38, f.o⟩ : Frm) else [])) (by omega)) ?_
         rintro _ h111 ⟨f59, V114, S115, ok59, O116, rfl, hF59, hC59, N112⟩
         obtain ⟨P117, rfl⟩ := O116.shape
         have M113 := M110.trans N112
         replace M113 : Mem _ _ (S115 :: [(p106, _)] :: S103 :: [(p25, _)] :: [(p33, ⟨KPart.flat d38.ps, 3, false⟩)] :: [(p1, _)] :: []) _ := M113
         refine WS.op rfl rfl (WS.op rfl rfl (WS.op rfl rfl ?_))
         refine WS.new M113 rfl ?_
         intro p118 h119 M120
         refine WS.st1 (M120.focus 0 rfl) [_, _, _, _, _, _, _, _, _, _, _, _, _, _, _, _, _, _, _, _, _, _, _, _, _, _, _, _, _, _, _, _, _, _, _, _, _] [_, _, _, _, _, _, _, _, _, _, _, _, _, _, _, _, _, _, _, _, _, _, _, _, _, _, _, _, _, _, _, _, _, _, _, _, _] rfl rfl rfl rfl rfl (Nat.le_of_ble_eq_true rfl) (Nat.le_of_ble_eq_true rfl) rfl rfl ?_
         intro h121 M122
         replace M122 : Mem _ _ ([(p118, _)] :: S115 :: [(p106, _)] :: S103 :: [(p25, _)] :: [(p33, ⟨KPart.flat d38.ps, 3, false⟩)] :: [(p1, _)] :: []) _ := M122
         refine WS.op rfl rfl (WS.nil [(2, _), (6, _), (7, _), (8, _), (9, _), (10, _), (11, _), (12, _)] rfl ?_)
         refine WC.seq ?_
         refine WC.run ?_
         have hM := wrF_t e45
         have hMg : mayFB (⟨f.kd, f.t0, f.t1, f.t2, f.t3, f.t4, f.t5, f.t6, f.t7, d38, f.o⟩ : Frm) = true := by rw [hmm]; exact hM
         have hE : (if mayFB f then encF f else []) = encF f := if_pos hM
         have hEg : (if mayFB (⟨f.kd, f.t0, f.t1, f.t2, f.t3, f.t4, f.t5, f.t6, f.t7, d38, f.o⟩ : Frm) then encF (⟨f.kd, f.t0, f.t1, f.t2, f.t3, f.t4, f.t5, f.t6, f.t7, d38, f.o⟩ : Frm) else []) = encF (⟨f.kd, f.t0, f.t1, f.t2, f.t3, f.t4, f.t5, f.t6, f.t7, d38, f.o⟩ : Frm) := if_pos hMg
         have hG : GoodF f := ⟨of_decide_eq_true hM, hp19.1.1⟩
         have hGg : GoodF (⟨f.kd, f.t0, f.t1, f.t2, f.t3, f.t4, f.t5, f.t6, f.t7, d38, f.o⟩ : Frm) := ⟨of_decide_eq_true hMg, hS38.tight.fit⟩
         rw [hE] at hC54
         rw [hEg] at hC59
         obtain ⟨f1, f2⟩ := rd_self encF_pf hG hC54
         obtain ⟨f3, f4⟩ := rd_self encF_pf hGg hC59
         refine WS.op rfl rfl (WS.op rfl rfl ?_)
         cases hb2 : ok54
         ·
          rw [f1] at hb2; cases hb2
         ·
          refine WS.op rfl rfl (WS.op rfl rfl (WS.op rfl rfl ?_))
          cases hb3 : ok59
          ·
           rw [f3] at hb3; cases hb3
          ·
           refine WS.op rfl (op_lds [_, _, _, _, _, _, _, _, _, _, _, _, _, _, _, _, _, _, _, _, _, _, _, _, _, _, _, _, _, _, _, _, _, _, _, _, _] (M122.at 2 rfl) rfl (Nat.le_of_ble_eq_true rfl) rfl) (WS.op rfl (op_lds [_, _, _, _, _, _, _, _, _, _, _, _, _, _, _, _, _, _, _, _, _, _, _, _, _, _, _, _, _, _, _, _, _, _, _, _, _] (M122.at 6 rfl) rfl (Nat.le_of_ble_eq_true rfl) rfl) ?_)
           refine WS.call rfl rfl rfl (SameF_ran M122.here (a := f54) (b := f) (Row.Own.sl O104 (Mem.owni M122 3 rfl)) (A.mono M122.sub) (by first | (have := hF54.2.2.2.2.2.1; omega) | (have := hF59.2.2.2.2.2.1; omega) | (have := hp19.1.1.2.2.2.2.2.1; omega))) ?_
           rintro _ h123 ⟨rfl, N124⟩
           have M125 := M122.trans N124
           refine WS.op rfl rfl (WS.op rfl rfl ?_)
           cases hb4 : (decide (f54 = f))
           ·
            exact absurd f2 (of_decide_eq_false hb4)
           ·
            refine WS.op rfl (op_lds [_, _, _, _, _, _, _, _, _, _, _, _, _, _, _, _, _, _, _, _, _, _, _, _, _, _, _, _, _, _, _, _, _, _, _, _, _] (M125.at 0 rfl) rfl (Nat.le_of_ble_eq_true rfl) rfl) (WS.op rfl (op_lds [_, _, _, _, _, _, _, _, _, _, _, _, _, _, _, _, _, _, _, _, _, _, _, _, _, _, _, _, _, _, _, _, _, _, _, _, _] (M125.at 4 rfl) rfl (Nat.le_of_ble_eq_true rfl) rfl) ?_)
            refine WS.call rfl rfl rfl (SameF_ran M125.here (a := f59) (b := (⟨f.kd, f.t0, f.t1, f.t2, f.t3, f.t4, f.t5, f.t6, f.t7, d38, f.o⟩ : Frm)) (Row.Own.sl O116 (Mem.owni M125 1 rfl)) (held_flat (K := KPart) (l := d38.ps) _ (Mem.owni M125 5 rfl)) (by first | (have := hF54.2.2.2.2.2.1; omega) | (have := hF59.2.2.2.2.2.1; omega) | (have := hp19.1.1.2.2.2.2.2.1; omega))) ?_
            rintro _ h126 ⟨rfl, N127⟩
            have M128 := M125.trans N127
            refine WS.op rfl rfl (WS.op rfl rfl ?_)
            cases hb5 : (decide (f59 = (⟨f.kd, f.t0, f.t1, f.t2, f.t3, f.t4, f.t5, f.t6, f.t7, d38, f.o⟩ : Frm)))
            ·
             exact absurd f4 (of_decide_eq_false hb5)
            ·
             refine WS.op rfl rfl (WS.op rfl rfl ?_)
             refine WS.seql (l := (if mayFB f then encF f else [])) (m := (if mayFB (⟨f.kd, f.t0, f.t1, f.t2, f.t3, f.t4, f.t5, f.t6, f.t7, d38, f.o⟩ : Frm) then encF (⟨f.kd, f.t0, f.t1, f.t2, f.t3, f.t4, f.t5, f.t6, f.t7, d38, f.o⟩ : Frm) else [])) rfl rfl rfl (fun e79 => ?_) (fun e79 => ?_)
             ·
              refine WS.op rfl (op_lds [_, _, _, _, _, _, _, _, _, _, _, _, _, _, _, _, _, _, _, _, _, _, _, _, _, _, _, _, _, _, _, _, _, _, _, _, _] (M128.at 6 rfl) rfl (Nat.le_of_ble_eq_true rfl) rfl) (WS.op rfl (op_lds [_, _, _, _, _, _, _, _, _, _, _, _, _, _, _, _, _, _, _, _, _, _, _, _, _, _, _, _, _, _, _, _, _, _, _, _, _] (M128.at 4 rfl) rfl (Nat.le_of_ble_eq_true rfl) rfl) ?_)
              refine WS.call rfl rfl rfl (SameF_ran M128.here (a := f) (b := (⟨f.kd, f.t0, f.t1, f.t2, f.t3, f.t4, f.t5, f.t6, f.t7, d38, f.o⟩ : Frm)) (A.mono M128.sub) (held_flat (K := KPart) (l := d38.ps) _ (Mem.owni M128 5 rfl)) (by first | (have := hF54.2.2.2.2.2.1; omega) | (have := hF59.2.2.2.2.2.1; omega) | (have := hp19.1.1.2.2.2.2.2.1; omega))) ?_
              rintro _ h129 ⟨rfl, N130⟩
              have M131 := M128.trans N130
              cases hb6 : (decide (f = (⟨f.kd, f.t0, f.t1, f.t2, f.t3, f.t4, f.t5, f.t6, f.t7, d38, f.o⟩ : Frm)))
              ·
               refine WS.opV (.bool false) rfl rfl rfl (WS.op rfl rfl (WS.op rfl rfl (WS.offC rfl (WS.op rfl rfl (WS.op rfl rfl (WS.nil [(4, _)] rfl ?_))))))
               refine WC.ret ?_
               refine ⟨[_], (res_tmp rfl res_nil), ?_⟩
               exfalso; first | exact absurd (hW.1 e45) e47 | exact absurd (hW.2 e47) e45 | exact absurd (encF_pf f (⟨f.kd, f.t0, f.t1, f.t2, f.t3, f.t4, f.t5, f.t6, f.t7, d38, f.o⟩ : Frm) [] [] hG hGg (by rw [← hE, ← hEg, e79])).1 (of_decide_eq_false (by assumption)) | exact absurd (show (if mayFB f then encF f else []) = (if mayFB (⟨f.kd, f.t0, f.t1, f.t2, f.t3, f.t4, f.t5, f.t6, f.t7, d38, f.o⟩ : Frm) then encF (⟨f.kd, f.t0, f.t1, f.t2, f.t3, f.t4, f.t5, f.t6, f.t7, d38, f.o⟩ : Frm) else []) by rw [← of_decide_eq_true (p := f = (⟨f.kd, f.t0, f.t1, f.t2, f.t3, f.t4, f.t5, f.t6, f.t7, d38, f.o⟩ : Frm)) (by assumption)]) e79
              ·
               refine WS.opV (.bool true) rfl rfl rfl (WS.op rfl rfl (WS.op rfl rfl ?_))
               refine WS.call rfl rfl rfl (awake6_ran M131.here ) ?_
               rintro _ h132 ⟨rfl, N133⟩
               have M134 := M131.trans N133
               refine WS.op rfl rfl (WS.op rfl rfl (WS.nil [(4, _)] rfl ?_))
               refine WC.ret ?_
               refine ⟨[_], (res_tmp rfl res_nil), ?_⟩
               rfl
             ·
              refine WS.op rfl (op_lds [_, _, _, _, _, _, _, _, _, _, _, _, _, _, _, _, _, _, _, _, _, _, _, _, _, _, _, _, _, _, _, _, _, _, _, _, _] (M128.at 6 rfl) rfl (Nat.le_of_ble_eq_true rfl) rfl) (WS.op rfl (op_lds [_, _, _, _, _, _, _, _, _, _, _, _, _, _, _, _, _, _, _, _, _, _, _, _, _, _, _, _, _, _, _, _, _, _, _, _, _] (M128.at 4 rfl) rfl (Nat.le_of_ble_eq_true rfl) rfl) ?_)
              refine WS.call rfl rfl rfl (SameF_ran M128.here (a := f) (b := (⟨f.kd, f.t0, f.t1, f.t2, f.t3, f.t4, f.t5, f.t6, f.t7, d38, f.o⟩ : Frm)) (A.mono M128.sub) (held_flat (K := KPart) (l := d38.ps) _ (Mem.owni M128 5 rfl)) (by first | (have := hF54.2.2.2.2.2.1; omega) | (have := hF59.2.2.2.2.2.1; omega) | (have := hp19.1.1.2.2.2.2.2.1; omega))) ?_
              rintro _ h135 ⟨rfl, N136⟩
              have M137 := M128.trans N136
              cases hb6 : (decide (f = (⟨f.kd, f.t0, f.t1, f.t2, f.t3, f.t4, f.t5, f.t6, f.t7, d38, f.o⟩ : Frm)))
              ·
               refine WS.opV (.bool true) rfl rfl rfl (WS.op rfl rfl (WS.op rfl rfl ?_))
               refine WS.call rfl rfl rfl (awake6_ran M137.here ) ?_
               rintro _ h138 ⟨rfl, N139⟩
               have M140 := M137.trans N139
               refine WS.op rfl rfl (WS.op rfl rfl (WS.nil [(4, _)] rfl ?_))
               refine WC.ret ?_
               refine ⟨[_], (res_tmp rfl res_nil), ?_⟩
               rfl
              ·
               refine WS.opV (.bool false) rfl rfl rfl (WS.op rfl rfl (WS.op rfl rfl (WS.offC rfl (WS.op rfl rfl (WS.op rfl rfl (WS.nil [(4, _)] rfl ?_))))))
               refine WC.ret ?_
               refine ⟨[_], (res_tmp rfl res_nil), ?_⟩
               exfalso; first | exact absurd (hW.1 e45) e47 | exact absurd (hW.2 e47) e45 | exact absurd (encF_pf f (⟨f.kd, f.t0, f.t1, f.t2, f.t3, f.t4, f.t5, f.t6, f.t7, d38, f.o⟩ : Frm) [] [] hG hGg (by rw [← hE, ← hEg, e79])).1 (of_decide_eq_false (by assumption)) | exact absurd (show (if mayFB f then encF f else []) = (if mayFB (⟨f.kd, f.t0, f.t1, f.t2, f.t3, f.t4, f.t5, f.t6, f.t7, d38, f.o⟩ : Frm) then encF (⟨f.kd, f.t0, f.t1, f.t2, f.t3, f.t4, f.t5, f.t6, f.t7, d38, f.o⟩ : Frm) else []) by rw [← of_decide_eq_true (p := f = (⟨f.kd, f.t0, f.t1, f.t2, f.t3, f.t4, f.t5, f.t6, f.t7, d38, f.o⟩ : Frm)) (by assumption)]) e79
end Go.Proofs.Yteikngjiaboeaaa.Wt
