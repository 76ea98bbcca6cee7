/- Which commands are oversize, and the statement CmdWrites, walked. -/
import Derived.Test.YtncpdahappmhkaaCw
import Derived.Test.YtncpdahappmhkaaAmZO
import Derived.KernelRfl
namespace Go.Proofs.Ytncpdahappmhkaa.Wt
open Go Go.Proofs.Ytncpdahappmhkaa.Am Go.Proofs.Ytncpdahappmhkaa.IrAll
set_option linter.unusedVariables false
set_option linter.unusedSimpArgs false
variable {h base : H} {L : List Seg} {R : List Nat}
inductive OwnX {α : Type} (K : Row α) : Value → List α → Seg → Prop
  | own {V l S} (O : K.Own V l S) : OwnX K V l S
  | lit (b e : Nat) (l : List α) : OwnX K (.slice (some ⟨b, 0, none⟩) l.length (2 * l.length + 1)) l [(b, ⟨K.flat l, e, false⟩)]
theorem OwnX.sl {α : Type} {K : Row α} {V : Value} {l : List α} {S : Seg} (O : OwnX K V l S) (M : ∀ p ∈ S, h.get p.1 = some p.2) : K.Sl h V l := by
  cases O with
  | own O => exact O.sl M
  | lit b e l => exact .own (M _ (List.mem_singleton.2 rfl))
theorem WS.appX {α : Type} {K : Row α} {e : Env} {l m : List α} {V y : Value} {tab : Nat → Option FD} {rb : Nat} {d : Option Nat} {g : Option (Nat × Bool)} {ss : List Step} {q : Env → H → Prop} {S : Seg} {x z : Operand} {bytes es : Nat} (O : OwnX K V l S) (M : Mem base h (S :: L) R) (A : K.Src h y m) (hm : m ≠ []) (hes : es = K.n) (hb : (l.length + m.length) * bytes ≤ 140737488355328) (hn : l.length + m.length ≤ 1099511627776) (hg : gd e g = some true) (hx : ev e x = some V) (hy : ev e z = some y)
    (k : ∀ V' S' h1, K.Own V' (l ++ m) S' → Mem base h1 (S' :: L) R → WS tab rb ss (put e d V') h1 q) : WS tab rb (.op d g (.app es bytes x z) :: ss) e h q := by
  cases O with
  | own O => exact WS.app O M A hes hb hn hg hx hy (fun V' S' h1 O M => k V' S' h1 O M)
  | lit b ee l =>
    subst hes
    obtain ⟨a1, a2⟩ := A
    have hall := plain1_one (K.flat_plain (l ++ m))
    have hg2 : h.get b = some ⟨K.flat l, ee, false⟩ := M.own0 _ (List.mem_singleton.2 rfl)
    have hml : m.length ≠ 0 := fun e => hm (List.eq_nil_of_length_eq_zero e)
    have hne : l ++ m ≠ [] := by intro q; exact hm (List.append_eq_nil_iff.1 q).2
    have O2 := Row.Own.row (K := K) h.next (l ++ m) hne
    refine .op hg (op_app hx hy (r := (.slice (some ⟨h.next, 0, none⟩) (l ++ m).length (2 * (l ++ m).length), h.alloc ⟨K.flat (l ++ m), K.n, false⟩)) ?_) (k _ _ _ O2 ((M.alloc _).focus 1 rfl).drop)
    have ham := plain1_one (K.flat_plain m)
    simp only [appE, a1, a2]
    rw [if_neg (by omega), if_pos ⟨hb, hn, ham⟩, lds_at hg2 (by rw [K.flat_length]; simp)]
    simp only
    rw [if_pos (by omega), List.drop_zero, List.take_of_length_le (by rw [K.flat_length]; exact Nat.le_refl _), ← K.flat_append, List.length_append]
    rfl
/-! ### Texts that are too long -/
def Long (n : Nat) (l : List (List UInt8)) : Prop := ∃ s ∈ l, n < s.length
instance (n : Nat) (l : List (List UInt8)) : Decidable (Long n l) := by unfold Long; infer_instance
theorem longer_ran (W : Mem h h [] []) {n : Nat} : Cll tab0 38 [.int .i64 (n : Int)] h (fun v h2 => ∃ p, v = .func (.func 39) #[] #[.pointer (some ⟨p, 0, none⟩)] ∧ Mem h h2 [[(p, ⟨[.int .i64 (n : Int)], 0, false⟩)]] []) := by
  refine Cll.code rfl rfl ?_
  refine WC.env [(0, _)] rfl ?_
  refine WC.seq ?_
  refine WC.run ?_
  refine WS.box W [_] rfl rfl rfl rfl ?_
  intro p1 h2 M3
  refine WS.op rfl rfl (WS.nil [(1, _)] rfl ?_)
  refine WC.seq ?_
  refine WC.run ?_
  refine WS.op rfl rfl (WS.op rfl rfl (WS.nil [(2, _)] rfl ?_))
  refine WC.ret ?_
  refine ⟨[_], (res_tmp rfl res_nil), ?_⟩
  exact ⟨_, rfl, M3⟩
theorem over11_ran (W : Mem h h [] []) {s : List UInt8} {n p : Nat} (hp : h.get p = some ⟨[.int .i64 (n : Int)], 0, false⟩) : Cll tab0 39 [.string (bs s), .pointer (some ⟨p, 0, none⟩)] h (fun v h2 => v = .bool (decide (n < s.length)) ∧ Mem h h2 [] []) := by
  refine Cll.code rfl rfl ?_
  refine WC.env [(0, _), (1, _)] rfl ?_
  refine WC.seq ?_
  refine WC.run ?_
  refine WS.op rfl rfl (WS.nil [(0, _), (1, _)] rfl ?_)
  refine WC.seq ?_
  refine WC.run ?_
  refine WS.op rfl rfl (WS.op rfl (op_lenS (l := s) rfl) (WS.op rfl (op_ld (W.sub _ _ hp) rfl rfl) ?_))
  refine WS.gtrN (a := (s).length) (b := n) rfl rfl rfl (fun e7 => ?_) (fun e7 => ?_)
  · skip
    refine WS.op rfl rfl (WS.nil [(3, _)] rfl ?_)
    refine WC.ret ?_
    refine ⟨[_], (res_tmp rfl res_nil), ?_⟩
    exact ⟨vbt (by omega), W.bare.take 0⟩
  · skip
    refine WS.op rfl rfl (WS.nil [(3, _)] rfl ?_)
    refine WC.ret ?_
    refine ⟨[_], (res_tmp rfl res_nil), ?_⟩
    exact ⟨vbf (by omega), W.bare.take 0⟩
theorem idxS_ran (W : Mem h h [] []) {V : Value} {l : List (List UInt8)} {n p : Nat} (A : KStr.Sl h V l) (hp : h.get p = some ⟨[.int .i64 (n : Int)], 0, false⟩) (hl : l.length ≤ 1000000) : Cll tab0 60 [V, .func (.func 39) #[] #[.pointer (some ⟨p, 0, none⟩)]] h (fun v h2 => (∃ z, v = .int .i64 z ∧ (0 ≤ z ↔ Long n l)) ∧ Mem h h2 [] []) := by
  refine Cll.code rfl rfl ?_
  refine WC.env [(0, _), (1, _)] rfl ?_
  refine WC.seq ?_
  refine WC.run ?_
  refine WS.op rfl rfl (WS.nil [(0, _), (1, _)] rfl ?_)
  refine WC.seq ?_
  refine WC.seq ?_
  refine WC.run ?_
  refine WS.op rfl rfl (WS.op rfl (op_lenVS A rfl) (WS.op rfl rfl (WS.nil [(0, _), (1, _), (7, _), (8, _)] rfl ?_)))
  refine WC.block ?_
  obtain ⟨L1, eL3, M2⟩ := Mem.name W.bare
  refine WC.loop (σ := Nat) (fun (i) => [(0, V), (1, (.func (.func 39) #[] #[(.pointer (some ⟨p, 0, none⟩))])), (7, (.int .i64 (((l).length : Nat) : Int))), (8, (.int .i64 ((i : Nat) : Int)))]) (fun (i) hh => Mem h hh (L1) [] ∧ (∀ s ∈ l.take i, s.length ≤ n) ∧ i ≤ l.length) (fun (i) => l.length - i) (0) rfl ⟨M2, ?_⟩ ?_
  · exact ⟨by intro e he; simp at he, by omega⟩
  · rintro i h4 ⟨M5, ⟨hO, hi1⟩⟩
    subst eL3
    refine WC.env [(0, _), (1, _), (7, _), (8, _)] rfl ?_
    refine WC.seq ?_
    refine WC.run ?_
    refine WS.lssN (a := i) (b := (l).length) rfl rfl rfl (fun e9 => ?_) (fun e9 => ?_)
    · skip
      refine WS.nil [(0, _), (1, _), (7, _), (8, _), (9, _)] rfl ?_
      refine WC.seq ?_
      refine WC.condT rfl ?_
      refine WC.skip ?_
      refine WC.seq ?_
      refine WC.block ?_
      refine WC.seq ?_
      refine WC.run ?_
      refine WS.op rfl rfl (WS.op rfl rfl (WS.nil [(0, _), (1, _), (5, _), (7, _), (8, _)] rfl ?_))
      refine WC.seq ?_
      refine WC.run ?_
      refine WS.op rfl rfl (WS.op rfl rfl (WS.op rfl rfl ?_))
      obtain ⟨y14, hy14⟩ : ∃ y, (l)[i]? = some y := ⟨_, List.getElem?_eq_getElem (show i < (l).length by first | omega | (simp only [List.length_drop, List.length_take, List.length_append, List.length_cons, List.length_nil, List.length_singleton]; omega) | (simp only [List.length_drop, List.length_take, List.length_append, List.length_cons, List.length_nil, List.length_singleton] at *; omega))⟩
      refine WS.iaVS A i hy14 rfl rfl rfl rfl ?_
      intro b14_ o14_ ha14
      refine WS.op rfl (op_ldH rfl (At.ld0 (ha14.mono M5.sub) rfl)) ?_
      refine WS.call rfl rfl rfl (over11_ran M5.here (s := y14) (M5.sub _ _ hp)) ?_
      rintro _ h6 ⟨rfl, N7⟩
      have M8 := M5.trans N7
      refine WS.nil [(0, _), (1, _), (5, _), (7, _), (8, _), (16, _)] rfl ?_
      cases hb1 : (decide (n < (y14).length))
      · skip
        refine WC.condF rfl ?_
        refine WC.skip ?_
        refine WC.run ?_
        refine WS.opV (.int .i64 (((i + 1) : Nat) : Int)) rfl rfl (add_i64 (a := i) (b := 1) (by omega)) (WS.op rfl rfl (WS.nil [(0, _), (1, _), (7, _), (8, _)] rfl ?_))
        refine ⟨i + 1, rfl, ⟨(M8.bare.take 0), ?_⟩, ?_⟩
        · exact ⟨by intro s hs; rw [List.take_add_one, hy14] at hs; simp only [Option.toList_some, List.mem_append, List.mem_singleton] at hs; rcases hs with hs | hs; exact hO s hs; subst hs; have := of_decide_eq_false hb1; omega, by omega⟩
        · simp only []; omega
      · skip
        refine WC.condT rfl ?_
        refine WC.seq ?_
        refine WC.run ?_
        refine WS.op rfl rfl (WS.op rfl rfl (WS.nil [(4, _)] rfl ?_))
        refine WC.ret ?_
        refine ⟨[_], (res_tmp rfl res_nil), ?_⟩
        exact ⟨⟨_, rfl, ⟨fun _ => ⟨y14, List.mem_of_getElem? hy14, of_decide_eq_true hb1⟩, fun _ => by omega⟩⟩, M8.bare.take 0⟩
    · skip
      refine WS.nil [(0, _), (1, _), (7, _), (8, _), (9, _)] rfl ?_
      refine WC.seq ?_
      refine WC.condF rfl ?_
      refine WC.exit ?_
      refine WC.seq ?_
      refine WC.run ?_
      refine WS.op rfl rfl (WS.nil [(4, _)] rfl ?_)
      refine WC.ret ?_
      refine ⟨[_], (res_tmp rfl res_nil), ?_⟩
      rw [List.take_of_length_le (by omega)] at hO
      exact ⟨⟨_, rfl, ⟨fun q => by omega, fun ⟨s, hs, q⟩ => by have := hO s hs; omega⟩⟩, M5.bare.take 0⟩
theorem contS_ran (W : Mem h h [] []) {V : Value} {l : List (List UInt8)} {n p : Nat} (A : KStr.Sl h V l) (hp : h.get p = some ⟨[.int .i64 (n : Int)], 0, false⟩) (hl : l.length ≤ 1000000) : Cll tab0 40 [V, .func (.func 39) #[] #[.pointer (some ⟨p, 0, none⟩)]] h (fun v h2 => v = .bool (decide (Long n l)) ∧ Mem h h2 [] []) := by
  refine Cll.code rfl rfl ?_
  refine WC.env [(0, _), (1, _)] rfl ?_
  refine WC.seq ?_
  refine WC.run ?_
  refine WS.op rfl rfl (WS.nil [(0, _), (1, _)] rfl ?_)
  refine WC.seq ?_
  refine WC.run ?_
  refine WS.op rfl rfl (WS.op rfl rfl ?_)
  refine WS.call rfl rfl rfl (idxS_ran W.here (A.mono W.sub) (W.sub _ _ hp) (by omega)) ?_
  rintro _ h1 ⟨⟨z7, rfl, hz7⟩, N2⟩
  have M3 := W.trans N2
  refine WS.geq (a := z7) (b := (0 : Int)) rfl rfl rfl (fun e8 => ?_) (fun e8 => ?_)
  · skip
    refine WS.op rfl rfl (WS.nil [(4, _)] rfl ?_)
    refine WC.ret ?_
    refine ⟨[_], (res_tmp rfl res_nil), ?_⟩
    exact ⟨by rw [decide_eq_true (hz7.1 (by omega))]; rfl, M3.bare.take 0⟩
  · skip
    refine WS.op rfl rfl (WS.nil [(4, _)] rfl ?_)
    refine WC.ret ?_
    refine ⟨[_], (res_tmp rfl res_nil), ?_⟩
    exact ⟨by rw [decide_eq_false (fun q => by have := hz7.2 q; omega)]; rfl, M3.bare.take 0⟩
def OverH (c : Cmd) : Prop := 16 < c.ky.length ∨ 16 < c.fr.length ∨ 16 < c.to.length ∨ 64 < c.va.length ∨ 64 < c.ex.length
def OverP (ps : List Part) : Prop := ∃ p ∈ ps, 16 < p.ky.length ∨ 64 < p.va.length
def OverC (c : Cmd) : Prop := OverH c ∨ OverP c.ps
noncomputable instance (c : Cmd) : Decidable (OverC c) := Classical.propDecidable _
theorem OverP_no {es : List Part} {i : Nat} {y : Part} (h : ¬ OverP (es.take i)) (hy : es[i]? = some y) (h1 : ¬ 16 < y.ky.length) (h2 : ¬ 64 < y.va.length) : ¬ OverP (es.take (i + 1)) := by
  rintro ⟨p, hp, q⟩
  rw [List.take_add_one, hy] at hp
  simp only [Option.toList_some, List.mem_append, List.mem_singleton] at hp
  rcases hp with hp | hp
  · exact h ⟨p, hp, q⟩
  · subst hp; omega
theorem over_keys {c : Cmd} : (Long 16 ([c.ky, c.fr, c.to] ++ c.ps.map Part.ky) ∨ Long 64 ([c.va, c.ex] ++ c.ps.map Part.va)) ↔ OverC c := by
  unfold OverC OverH OverP Long
  constructor
  · rintro (⟨s, hs, q⟩ | ⟨s, hs, q⟩)
    · simp only [List.cons_append, List.nil_append, List.mem_cons, List.mem_map] at hs
      rcases hs with rfl | rfl | rfl | ⟨p, hp, rfl⟩
      · exact .inl (.inl q)
      · exact .inl (.inr (.inl q))
      · exact .inl (.inr (.inr (.inl q)))
      · exact .inr ⟨p, hp, .inl q⟩
    · simp only [List.cons_append, List.nil_append, List.mem_cons, List.mem_map] at hs
      rcases hs with rfl | rfl | ⟨p, hp, rfl⟩
      · exact .inl (.inr (.inr (.inr (.inl q))))
      · exact .inl (.inr (.inr (.inr (.inr q))))
      · exact .inr ⟨p, hp, .inr q⟩
  · rintro ((q | q | q | q | q) | ⟨p, hp, q | q⟩)
    · exact .inl ⟨_, by simp, q⟩
    · exact .inl ⟨_, by simp, q⟩
    · exact .inl ⟨_, by simp, q⟩
    · exact .inr ⟨_, by simp, q⟩
    · exact .inr ⟨_, by simp, q⟩
    · exact .inl ⟨p.ky, by simp; exact .inr (.inr (.inr ⟨p, hp, rfl⟩)), q⟩
    · exact .inr ⟨p.va, by simp; exact .inr (.inr ⟨p, hp, rfl⟩), q⟩
theorem map_take_step {α β : Type} (f : α → β) {l : List α} {i : Nat} {y : α} (hy : l[i]? = some y) : (l.take (i + 1)).map f = (l.take i).map f ++ [f y] := by
  rw [List.take_add_one, hy]; simp
set_option maxRecDepth 8000 in
theorem Oversize_ran (W : Mem h h [] []) {c : Cmd} {V : Value} (A : KPart.Sl h V c.ps) (hf : Fit c) : Cll tab0 17 [c.val V] h (fun v h2 => v = .bool (decide (OverC c)) ∧ Mem h h2 [] []) := by
  obtain ⟨P, n, rfl⟩ := A.shape
  have f6 := hf.2.2.2.2.2.1
  refine Cll.code rfl rfl ?_
  refine WC.env [(0, _)] rfl ?_
  refine WC.seq ?_
  refine WC.run ?_
  refine WS.box W [_, _, _, _, _, _, _, _, _, _, _, _] rfl rfl rfl rfl ?_
  intro p1 h2 M3
  refine WS.op rfl rfl (WS.nil [(1, _)] rfl ?_)
  refine WC.seq ?_
  refine WC.draw M3 [6, 11] rfl ?_
  intro rb4 h5 M6
  refine WS.op rfl rfl (WS.op rfl (op_ld (M6.at 0 rfl) rfl rfl) (WS.op rfl rfl (WS.op rfl (op_ld (M6.at 0 rfl) rfl rfl) (WS.op rfl rfl (WS.op rfl (op_ld (M6.at 0 rfl) rfl rfl) (WS.op rfl rfl (WS.op rfl (op_ld (M6.at 0 rfl) rfl rfl) (WS.op rfl rfl (WS.op rfl (op_ld (M6.at 0 rfl) rfl rfl) ?_)))))))))
  refine WS.bslA M6 [_, _, _] 0 rfl rfl rfl rfl rfl ?_
  intro h8 M9
  refine WS.op rfl rfl ?_
  refine WS.bslA M9 [_, _] 0 rfl rfl rfl rfl rfl ?_
  intro h11 M12
  refine WS.op rfl rfl (WS.nil [(1, _), (3, _), (4, _)] rfl ?_)
  refine WC.seq ?_
  refine WC.seq ?_
  refine WC.run ?_
  refine WS.op rfl rfl (WS.op rfl (op_ld (M12.bare.at 2 rfl) rfl rfl) (WS.op rfl (op_lenVS A rfl) (WS.op rfl rfl (WS.nil [(3, _), (4, _), (21, _), (22, _), (23, _)] rfl ?_))))
  refine WC.block ?_
  obtain ⟨L13, eL15, M14⟩ := Mem.name2 ((M12.bare.bare.focus 0 rfl).focus 1 rfl)
  refine WC.loop (σ := Value × Seg × Value × Seg × Nat) (fun ((K_, S1, V_, S2, i)) => [(3, K_), (4, V_), (21, (.slice P c.ps.length n)), (22, (.int .i64 (((c.ps).length : Nat) : Int))), (23, (.int .i64 ((i : Nat) : Int)))]) (fun ((K_, S1, V_, S2, i)) hh => Mem h hh (S1 :: S2 :: L13) [] ∧ OwnX KStr K_ ([c.ky, c.fr, c.to] ++ (c.ps.take i).map Part.ky) S1 ∧ OwnX KStr V_ ([c.va, c.ex] ++ (c.ps.take i).map Part.va) S2 ∧ i ≤ c.ps.length) (fun ((K_, S1, V_, S2, i)) => c.ps.length - i) ((.slice (some ⟨(rb4 + 6), 0, none⟩) 3 7), [((rb4 + 6), _)], (.slice (some ⟨(rb4 + 11), 0, none⟩) 2 5), [((rb4 + 11), _)], 0) rfl ⟨M14, ?_⟩ ?_
  · exact ⟨OwnX.lit _ _ [c.ky, c.fr, c.to], OwnX.lit _ _ [c.va, c.ex], by omega⟩
  · rintro ⟨K_, S1, V_, S2, i⟩ h16 ⟨M17, ⟨hK, hV, hi1⟩⟩
    subst eL15
    refine WC.env [(3, _), (4, _), (21, _), (22, _), (23, _)] rfl ?_
    refine WC.seq ?_
    refine WC.run ?_
    refine WS.lssN (a := i) (b := (c.ps).length) rfl rfl rfl (fun e24 => ?_) (fun e24 => ?_)
    · skip
      refine WS.nil [(3, _), (4, _), (21, _), (22, _), (23, _), (24, _)] rfl ?_
      refine WC.seq ?_
      refine WC.condT rfl ?_
      refine WC.skip ?_
      refine WC.seq ?_
      refine WC.block ?_
      refine WC.seq ?_
      refine WC.run ?_
      obtain ⟨y25, hy25⟩ : ∃ y, (c.ps)[i]? = some y := ⟨_, List.getElem?_eq_getElem (show i < (c.ps).length by first | omega | (simp only [List.length_drop, List.length_take, List.length_append, List.length_cons, List.length_nil, List.length_singleton]; omega) | (simp only [List.length_drop, List.length_take, List.length_append, List.length_cons, List.length_nil, List.length_singleton] at *; omega))⟩
      refine WS.iaVS A i hy25 rfl rfl rfl rfl ?_
      intro b25_ o25_ ha25
      refine WS.op rfl (op_ldAt rfl (ha25.mono M17.sub) rfl) ?_
      refine WS.new M17 rfl ?_
      intro p18 h19 M20
      refine WS.st1 (M20.focus 0 rfl) [_, _, _] [_, _, _] rfl rfl rfl rfl rfl (Nat.le_of_ble_eq_true rfl) (Nat.le_of_ble_eq_true rfl) rfl rfl ?_
      intro h21 M22
      replace M22 : Mem _ _ ([(p18, _)] :: S1 :: S2 :: [(p1, _)] :: []) _ := M22
      refine WS.nil [(3, _), (4, _), (6, _), (21, _), (22, _), (23, _)] rfl ?_
      refine WC.draw M22 [3, 8] rfl ?_
      intro rb23 h24 M25
      refine WS.op rfl rfl (WS.op rfl rfl (WS.op rfl (op_ld (M25.at 0 rfl) rfl rfl) (WS.op rfl rfl (WS.op rfl rfl (WS.op rfl (op_ld (M25.at 0 rfl) rfl rfl) ?_)))))
      refine WS.bslA M25 [_] 0 rfl rfl rfl rfl rfl ?_
      intro h27 M28
      refine WS.appX (K := KStr) (bytes := 16) (m := [y25.ky]) hK (M28.focus 2 rfl) (Row.Src.one (K := KStr) (m := [y25.ky]) (M28.at 0 rfl)) (by simp) rfl (by simp only [List.length_append, List.length_map, List.length_take, List.length_cons, List.length_nil]; omega) (by simp only [List.length_append, List.length_map, List.length_take, List.length_cons, List.length_nil]; omega) rfl rfl rfl ?_
      intro V29 S30 h31 O32 M33
      replace M33 : Mem _ _ (S30 :: [((rb23 + 3), _)] :: [(p18, _)] :: S2 :: [(p1, _)] :: []) _ := M33
      refine WS.chk rfl (op_ld (M33.at 2 rfl) rfl rfl) rfl (sameV_refl rfl) ?_
      refine WS.bslA M33 [_] 0 rfl rfl rfl rfl rfl ?_
      intro h35 M36
      refine WS.appX (K := KStr) (bytes := 16) (m := [y25.va]) hV (M36.focus 4 rfl) (Row.Src.one (K := KStr) (m := [y25.va]) (M36.at 0 rfl)) (by simp) rfl (by simp only [List.length_append, List.length_map, List.length_take, List.length_cons, List.length_nil]; omega) (by simp only [List.length_append, List.length_map, List.length_take, List.length_cons, List.length_nil]; omega) rfl rfl rfl ?_
      intro V37 S38 h39 O40 M41
      replace M41 : Mem _ _ (S38 :: [((rb23 + 8), _)] :: S30 :: [((rb23 + 3), _)] :: [(p18, _)] :: [(p1, _)] :: []) _ := M41
      refine WS.op rfl rfl (WS.op rfl rfl (WS.nil [(3, _), (4, _), (21, _), (22, _), (23, _)] rfl ?_))
      refine WC.run ?_
      refine WS.opV (.int .i64 (((i + 1) : Nat) : Int)) rfl rfl (add_i64 (a := i) (b := 1) (by omega)) (WS.op rfl rfl (WS.nil [(3, _), (4, _), (21, _), (22, _), (23, _)] rfl ?_))
      refine ⟨(V29, S30, V37, S38, i + 1), rfl, ⟨((((M41.bare.bare.focus 5 rfl).focus 1 rfl).focus 3 rfl).take 3), ?_⟩, ?_⟩
      · exact ⟨by rw [map_take_step _ hy25, ← List.append_assoc]; exact (OwnX.own O32), by rw [map_take_step _ hy25, ← List.append_assoc]; exact (OwnX.own O40), by omega⟩
      · simp only []; omega
    · skip
      refine WS.nil [(3, _), (4, _), (21, _), (22, _), (23, _), (24, _)] rfl ?_
      refine WC.seq ?_
      refine WC.condF rfl ?_
      refine WC.exit ?_
      refine WC.seq ?_
      refine WC.run ?_
      refine WS.op rfl rfl (WS.nil [(3, _), (4, _), (7, _)] rfl ?_)
      refine WC.seq ?_
      refine WC.run ?_
      refine WS.op rfl rfl (WS.op rfl rfl ?_)
      refine WS.call rfl rfl rfl (longer_ran M17.here (n := 16)) ?_
      rintro _ h42 ⟨p45, rfl, N43⟩
      have M44 := M17.trans N43
      replace M44 : Mem _ _ ([(p45, _)] :: S1 :: S2 :: [(p1, _)] :: []) _ := M44
      refine WS.call rfl rfl rfl (contS_ran M44.here (OwnX.sl hK (Mem.owni M44 1 rfl)) (n := 16) (M44.at 0 rfl) (by simp only [List.length_append, List.length_map, List.length_take, List.length_cons, List.length_nil]; omega)) ?_
      rintro _ h46 ⟨rfl, N47⟩
      have M48 := M44.trans N47
      refine WS.op rfl rfl ?_
      cases hb1 : (decide (Long 16 ([c.ky, c.fr, c.to] ++ (c.ps.take i).map Part.ky)))
      · skip
        refine WS.op rfl rfl (WS.op rfl rfl ?_)
        refine WS.call rfl rfl rfl (longer_ran M48.here (n := 64)) ?_
        rintro _ h49 ⟨p52, rfl, N50⟩
        have M51 := M48.trans N50
        replace M51 : Mem _ _ ([(p52, _)] :: [(p45, _)] :: S1 :: S2 :: [(p1, _)] :: []) _ := M51
        refine WS.call rfl rfl rfl (contS_ran M51.here (OwnX.sl hV (Mem.owni M51 3 rfl)) (n := 64) (M51.at 0 rfl) (by simp only [List.length_append, List.length_map, List.length_take, List.length_cons, List.length_nil]; omega)) ?_
        rintro _ h53 ⟨rfl, N54⟩
        have M55 := M51.trans N54
        refine WS.op rfl rfl (WS.op rfl rfl (WS.nil [(2, _)] rfl ?_))
        refine WC.ret ?_
        cases hb2 : (decide (Long 64 ([c.va, c.ex] ++ (c.ps.take i).map Part.va)))
        · skip
          refine ⟨[_], (res_tmp rfl res_nil), ?_⟩
          have hpsl : c.ps.take i = c.ps := List.take_of_length_le (by omega)
          exact ⟨by rw [decide_eq_false (p := OverC c) (fun q => by have q2 := over_keys.2 q; rw [← hpsl] at q2; rcases q2 with q2 | q2; exact absurd q2 (of_decide_eq_false (by assumption)); exact absurd q2 (of_decide_eq_false (by assumption)))]; rfl, M55.bare.take 0⟩
        · skip
          refine ⟨[_], (res_tmp rfl res_nil), ?_⟩
          have hpsl : c.ps.take i = c.ps := List.take_of_length_le (by omega)
          exact ⟨by rw [decide_eq_true (p := OverC c) (over_keys.1 (by rw [← hpsl]; first | exact .inl (of_decide_eq_true (by assumption)) | exact .inr (of_decide_eq_true (by assumption))))]; rfl, M55.bare.take 0⟩
      · skip
        refine WS.off rfl (WS.off rfl (WS.offC rfl (WS.offC rfl (WS.op rfl rfl (WS.op rfl rfl (WS.nil [(2, _)] rfl ?_))))))
        refine WC.ret ?_
        refine ⟨[_], (res_tmp rfl res_nil), ?_⟩
        have hpsl : c.ps.take i = c.ps := List.take_of_length_le (by omega)
        exact ⟨by rw [decide_eq_true (p := OverC c) (over_keys.1 (by rw [← hpsl]; first | exact .inl (of_decide_eq_true (by assumption)) | exact .inr (of_decide_eq_true (by assumption))))]; rfl, M48.bare.take 0⟩
set_option maxRecDepth 8000 in
theorem refOversize_ran (W : Mem h h [] []) {c : Cmd} {V : Value} (A : KPart.Sl h V c.ps) (hf : Fit c) : Cll tab0 18 [c.val V] h (fun v h2 => v = .bool (decide (OverC c)) ∧ Mem h h2 [] []) := by
  obtain ⟨P, n, rfl⟩ := A.shape
  have f6 := hf.2.2.2.2.2.1
  refine Cll.code rfl rfl ?_
  refine WC.env [(0, _)] rfl ?_
  refine WC.seq ?_
  refine WC.run ?_
  refine WS.box W [_, _, _, _, _, _, _, _, _, _, _, _] rfl rfl rfl rfl ?_
  intro p1 h2 M3
  refine WS.op rfl rfl (WS.nil [(1, _)] rfl ?_)
  refine WC.seq ?_
  refine WC.run ?_
  refine WS.op rfl rfl (WS.op rfl (op_ld (M3.at 0 rfl) rfl rfl) (WS.op rfl (op_lenS (l := c.ky) rfl) ?_))
  refine WS.gtrN (a := (c.ky).length) (b := 16) rfl rfl rfl (fun e8 => ?_) (fun e8 => ?_)
  · skip
    refine WS.op rfl rfl (WS.off rfl (WS.off rfl (WS.off rfl (WS.off rfl (WS.op rfl rfl (WS.op rfl rfl (WS.off rfl (WS.off rfl (WS.off rfl ?_)))))))))
    refine WS.off rfl (WS.op rfl rfl (WS.op rfl rfl (WS.off rfl (WS.off rfl (WS.off rfl (WS.off rfl (WS.op rfl rfl (WS.op rfl rfl (WS.off rfl ?_)))))))))
    refine WS.off rfl (WS.off rfl (WS.off rfl (WS.op rfl rfl (WS.op rfl rfl (WS.nil [(1, _), (3, _)] rfl ?_)))))
    refine WC.seq ?_
    refine WC.seq ?_
    refine WC.run ?_
    refine WS.op rfl rfl (WS.nil [(1, _), (3, _), (4, _)] rfl ?_)
    refine WC.block ?_
    obtain ⟨L4, eL6, M5⟩ := Mem.name M3.bare
    refine WC.loop (σ := Bool × Nat) (fun ((big, i)) => [(1, (.pointer (some ⟨p1, 0, none⟩))), (3, (.bool big)), (4, (.int .i64 ((i : Nat) : Int)))]) (fun ((big, i)) hh => Mem h hh (L4) [] ∧ (big = true → OverC c) ∧ (big = false → ¬ OverH c ∧ ¬ OverP (c.ps.take i)) ∧ i ≤ c.ps.length) (fun ((big, i)) => c.ps.length - i) (true, 0) rfl ⟨M5, ?_⟩ ?_
    · first | exact ⟨fun _ => .inl (by unfold OverH; omega), fun q => (nomatch q), by omega⟩ | exact ⟨fun q => (nomatch q), fun _ => ⟨by unfold OverH; omega, by rintro ⟨p, hp, _⟩; simp at hp⟩, by omega⟩
    · rintro ⟨big, i⟩ h7 ⟨M8, ⟨hT, hF, hi1⟩⟩
      subst eL6
      refine WC.env [(1, _), (3, _), (4, _)] rfl ?_
      refine WC.seq ?_
      refine WC.seq ?_
      refine WC.run ?_
      refine WS.op rfl rfl (WS.op rfl rfl (WS.op rfl (op_ld (M8.at 0 rfl) rfl rfl) (WS.op rfl (op_lenVS A rfl) ?_)))
      refine WS.lssN (a := i) (b := (c.ps).length) rfl rfl rfl (fun e37 => ?_) (fun e37 => ?_)
      · skip
        refine WS.nil [(1, _), (3, _), (4, _), (37, _)] rfl ?_
        refine WC.condT rfl ?_
        refine WC.skip ?_
        refine WC.seq ?_
        refine WC.block ?_
        refine WC.run ?_
        refine WS.op rfl rfl (WS.op rfl rfl ?_)
        cases hb1 : big
        · skip
          refine WS.op rfl rfl (WS.op rfl (op_ld (M8.at 0 rfl) rfl rfl) (WS.op rfl rfl ?_))
          obtain ⟨y45, hy45⟩ : ∃ y, (c.ps)[i]? = some y := ⟨_, List.getElem?_eq_getElem (show i < (c.ps).length by first | omega | (simp only [List.length_drop, List.length_take, List.length_append, List.length_cons, List.length_nil, List.length_singleton]; omega) | (simp only [List.length_drop, List.length_take, List.length_append, List.length_cons, List.length_nil, List.length_singleton] at *; omega))⟩
          refine WS.iaVS A i hy45 rfl rfl rfl rfl ?_
          intro b45_ o45_ ha45
          refine WS.op rfl rfl (WS.op rfl (op_ldH rfl (At.ld (ha45.mono M8.sub) rfl)) (WS.op rfl (op_lenS (l := y45.ky) rfl) ?_))
          refine WS.gtrN (a := (y45.ky).length) (b := 16) rfl rfl rfl (fun e49 => ?_) (fun e49 => ?_)
          · skip
            refine WS.op rfl rfl (WS.op rfl rfl (WS.off rfl (WS.off rfl (WS.off rfl (WS.off rfl (WS.off rfl (WS.off rfl (WS.off rfl (WS.off rfl ?_)))))))))
            refine WS.op rfl rfl (WS.op rfl rfl (WS.nil [(1, _), (3, _), (4, _)] rfl ?_))
            refine WC.run ?_
            refine WS.op rfl rfl (WS.opV (.int .i64 (((i + 1) : Nat) : Int)) rfl rfl (add_i64 (a := i) (b := 1) (by omega)) (WS.op rfl rfl (WS.nil [(1, _), (3, _), (4, _)] rfl ?_)))
            refine ⟨(true, i + 1), rfl, ⟨((M8.bare.focus 0 rfl).take 1), ?_⟩, ?_⟩
            · exact ⟨fun _ => (by first | exact hT (by assumption) | exact .inr ⟨y45, List.mem_of_getElem? hy45, by omega⟩), fun q => (nomatch q), by omega⟩
            · simp only []; omega
          · skip
            refine WS.op rfl rfl (WS.op rfl rfl (WS.op rfl rfl (WS.op rfl (op_ld (M8.at 0 rfl) rfl rfl) (WS.op rfl rfl ?_))))
            refine WS.iaVS A i hy45 rfl rfl rfl rfl ?_
            intro b55_ o55_ ha55
            refine WS.op rfl rfl (WS.op rfl (op_ldH rfl (At.ld (ha55.mono M8.sub) rfl)) (WS.op rfl (op_lenS (l := y45.va) rfl) ?_))
            refine WS.gtrN (a := (y45.va).length) (b := 64) rfl rfl rfl (fun e59 => ?_) (fun e59 => ?_)
            · skip
              refine WS.op rfl rfl (WS.op rfl rfl (WS.nil [(1, _), (3, _), (4, _)] rfl ?_))
              refine WC.run ?_
              refine WS.op rfl rfl (WS.opV (.int .i64 (((i + 1) : Nat) : Int)) rfl rfl (add_i64 (a := i) (b := 1) (by omega)) (WS.op rfl rfl (WS.nil [(1, _), (3, _), (4, _)] rfl ?_)))
              refine ⟨(true, i + 1), rfl, ⟨((M8.bare.focus 0 rfl).take 1), ?_⟩, ?_⟩
              · exact ⟨fun _ => (by first | exact hT (by assumption) | exact .inr ⟨y45, List.mem_of_getElem? hy45, by omega⟩), fun q => (nomatch q), by omega⟩
              · simp only []; omega
            · skip
              refine WS.op rfl rfl (WS.op rfl rfl (WS.nil [(1, _), (3, _), (4, _)] rfl ?_))
              refine WC.run ?_
              refine WS.op rfl rfl (WS.opV (.int .i64 (((i + 1) : Nat) : Int)) rfl rfl (add_i64 (a := i) (b := 1) (by omega)) (WS.op rfl rfl (WS.nil [(1, _), (3, _), (4, _)] rfl ?_)))
              refine ⟨(false, i + 1), rfl, ⟨((M8.bare.focus 0 rfl).take 1), ?_⟩, ?_⟩
              · exact ⟨fun q => (nomatch q), fun _ => ⟨(hF (by assumption)).1, OverP_no (hF (by assumption)).2 hy45 (by omega) (by omega)⟩, by omega⟩
              · simp only []; omega
        · skip
          refine WS.off rfl (WS.off rfl (WS.off rfl (WS.off rfl (WS.off rfl (WS.off rfl (WS.off rfl (WS.off rfl (WS.op rfl rfl (WS.op rfl rfl ?_)))))))))
          refine WS.off rfl (WS.off rfl (WS.off rfl (WS.off rfl (WS.off rfl (WS.off rfl (WS.off rfl (WS.off rfl (WS.op rfl rfl (WS.op rfl rfl ?_)))))))))
          refine WS.nil [(1, _), (3, _), (4, _)] rfl ?_
          refine WC.run ?_
          refine WS.op rfl rfl (WS.opV (.int .i64 (((i + 1) : Nat) : Int)) rfl rfl (add_i64 (a := i) (b := 1) (by omega)) (WS.op rfl rfl (WS.nil [(1, _), (3, _), (4, _)] rfl ?_)))
          refine ⟨(true, i + 1), rfl, ⟨((M8.bare.focus 0 rfl).take 1), ?_⟩, ?_⟩
          · exact ⟨fun _ => (by first | exact hT (by assumption) | exact .inr ⟨y45, List.mem_of_getElem? hy45, by omega⟩), fun q => (nomatch q), by omega⟩
          · simp only []; omega
      · skip
        refine WS.nil [(1, _), (3, _), (4, _), (37, _)] rfl ?_
        refine WC.condF rfl ?_
        refine WC.exit ?_
        refine WC.seq ?_
        refine WC.run ?_
        refine WS.op rfl rfl (WS.op rfl rfl (WS.nil [(2, _)] rfl ?_))
        refine WC.ret ?_
        cases hb1 : big
        · skip
          refine ⟨[_], (res_tmp rfl res_nil), ?_⟩
          have hq := hF (by assumption)
          rw [List.take_of_length_le (by omega)] at hq
          exact ⟨by rw [decide_eq_false (p := OverC c) (fun q => by rcases q with q | q; exact hq.1 q; exact hq.2 q)]; rfl, M8.bare.take 0⟩
        · skip
          refine ⟨[_], (res_tmp rfl res_nil), ?_⟩
          exact ⟨by rw [decide_eq_true (hT (by assumption))]; rfl, M8.bare.take 0⟩
  · skip
    refine WS.op rfl rfl (WS.op rfl rfl (WS.op rfl (op_ld (M3.at 0 rfl) rfl rfl) (WS.op rfl (op_lenS (l := c.fr) rfl) ?_)))
    refine WS.gtrN (a := (c.fr).length) (b := 16) rfl rfl rfl (fun e13 => ?_) (fun e13 => ?_)
    · skip
      refine WS.op rfl rfl (WS.op rfl rfl (WS.off rfl (WS.off rfl (WS.off rfl (WS.off rfl (WS.op rfl rfl (WS.op rfl rfl (WS.off rfl (WS.off rfl ?_)))))))))
      refine WS.off rfl (WS.off rfl (WS.op rfl rfl (WS.op rfl rfl (WS.off rfl (WS.off rfl (WS.off rfl (WS.off rfl (WS.op rfl rfl (WS.op rfl rfl ?_)))))))))
      refine WS.nil [(1, _), (3, _)] rfl ?_
      refine WC.seq ?_
      refine WC.seq ?_
      refine WC.run ?_
      refine WS.op rfl rfl (WS.nil [(1, _), (3, _), (4, _)] rfl ?_)
      refine WC.block ?_
      obtain ⟨L9, eL11, M10⟩ := Mem.name M3.bare
      refine WC.loop (σ := Bool × Nat) (fun ((big, i)) => [(1, (.pointer (some ⟨p1, 0, none⟩))), (3, (.bool big)), (4, (.int .i64 ((i : Nat) : Int)))]) (fun ((big, i)) hh => Mem h hh (L9) [] ∧ (big = true → OverC c) ∧ (big = false → ¬ OverH c ∧ ¬ OverP (c.ps.take i)) ∧ i ≤ c.ps.length) (fun ((big, i)) => c.ps.length - i) (true, 0) rfl ⟨M10, ?_⟩ ?_
      · first | exact ⟨fun _ => .inl (by unfold OverH; omega), fun q => (nomatch q), by omega⟩ | exact ⟨fun q => (nomatch q), fun _ => ⟨by unfold OverH; omega, by rintro ⟨p, hp, _⟩; simp at hp⟩, by omega⟩
      · rintro ⟨big, i⟩ h12 ⟨M13, ⟨hT, hF, hi1⟩⟩
        subst eL11
        refine WC.env [(1, _), (3, _), (4, _)] rfl ?_
        refine WC.seq ?_
        refine WC.seq ?_
        refine WC.run ?_
        refine WS.op rfl rfl (WS.op rfl rfl (WS.op rfl (op_ld (M13.at 0 rfl) rfl rfl) (WS.op rfl (op_lenVS A rfl) ?_)))
        refine WS.lssN (a := i) (b := (c.ps).length) rfl rfl rfl (fun e37 => ?_) (fun e37 => ?_)
        · skip
          refine WS.nil [(1, _), (3, _), (4, _), (37, _)] rfl ?_
          refine WC.condT rfl ?_
          refine WC.skip ?_
          refine WC.seq ?_
          refine WC.block ?_
          refine WC.run ?_
          refine WS.op rfl rfl (WS.op rfl rfl ?_)
          cases hb1 : big
          · skip
            refine WS.op rfl rfl (WS.op rfl (op_ld (M13.at 0 rfl) rfl rfl) (WS.op rfl rfl ?_))
            obtain ⟨y45, hy45⟩ : ∃ y, (c.ps)[i]? = some y := ⟨_, List.getElem?_eq_getElem (show i < (c.ps).length by first | omega | (simp only [List.length_drop, List.length_take, List.length_append, List.length_cons, List.length_nil, List.length_singleton]; omega) | (simp only [List.length_drop, List.length_take, List.length_append, List.length_cons, List.length_nil, List.length_singleton] at *; omega))⟩
            refine WS.iaVS A i hy45 rfl rfl rfl rfl ?_
            intro b45_ o45_ ha45
            refine WS.op rfl rfl (WS.op rfl (op_ldH rfl (At.ld (ha45.mono M13.sub) rfl)) (WS.op rfl (op_lenS (l := y45.ky) rfl) ?_))
            refine WS.gtrN (a := (y45.ky).length) (b := 16) rfl rfl rfl (fun e49 => ?_) (fun e49 => ?_)
            · skip
              refine WS.op rfl rfl (WS.op rfl rfl (WS.off rfl (WS.off rfl (WS.off rfl (WS.off rfl (WS.off rfl (WS.off rfl (WS.off rfl (WS.off rfl ?_)))))))))
              refine WS.op rfl rfl (WS.op rfl rfl (WS.nil [(1, _), (3, _), (4, _)] rfl ?_))
              refine WC.run ?_
              refine WS.op rfl rfl (WS.opV (.int .i64 (((i + 1) : Nat) : Int)) rfl rfl (add_i64 (a := i) (b := 1) (by omega)) (WS.op rfl rfl (WS.nil [(1, _), (3, _), (4, _)] rfl ?_)))
              refine ⟨(true, i + 1), rfl, ⟨((M13.bare.focus 0 rfl).take 1), ?_⟩, ?_⟩
              · exact ⟨fun _ => (by first | exact hT (by assumption) | exact .inr ⟨y45, List.mem_of_getElem? hy45, by omega⟩), fun q => (nomatch q), by omega⟩
              · simp only []; omega
            · skip
              refine WS.op rfl rfl (WS.op rfl rfl (WS.op rfl rfl (WS.op rfl (op_ld (M13.at 0 rfl) rfl rfl) (WS.op rfl rfl ?_))))
              refine WS.iaVS A i hy45 rfl rfl rfl rfl ?_
              intro b55_ o55_ ha55
              refine WS.op rfl rfl (WS.op rfl (op_ldH rfl (At.ld (ha55.mono M13.sub) rfl)) (WS.op rfl (op_lenS (l := y45.va) rfl) ?_))
              refine WS.gtrN (a := (y45.va).length) (b := 64) rfl rfl rfl (fun e59 => ?_) (fun e59 => ?_)
              · skip
                refine WS.op rfl rfl (WS.op rfl rfl (WS.nil [(1, _), (3, _), (4, _)] rfl ?_))
                refine WC.run ?_
                refine WS.op rfl rfl (WS.opV (.int .i64 (((i + 1) : Nat) : Int)) rfl rfl (add_i64 (a := i) (b := 1) (by omega)) (WS.op rfl rfl (WS.nil [(1, _), (3, _), (4, _)] rfl ?_)))
                refine ⟨(true, i + 1), rfl, ⟨((M13.bare.focus 0 rfl).take 1), ?_⟩, ?_⟩
                · exact ⟨fun _ => (by first | exact hT (by assumption) | exact .inr ⟨y45, List.mem_of_getElem? hy45, by omega⟩), fun q => (nomatch q), by omega⟩
                · simp only []; omega
              · skip
                refine WS.op rfl rfl (WS.op rfl rfl (WS.nil [(1, _), (3, _), (4, _)] rfl ?_))
                refine WC.run ?_
                refine WS.op rfl rfl (WS.opV (.int .i64 (((i + 1) : Nat) : Int)) rfl rfl (add_i64 (a := i) (b := 1) (by omega)) (WS.op rfl rfl (WS.nil [(1, _), (3, _), (4, _)] rfl ?_)))
                refine ⟨(false, i + 1), rfl, ⟨((M13.bare.focus 0 rfl).take 1), ?_⟩, ?_⟩
                · exact ⟨fun q => (nomatch q), fun _ => ⟨(hF (by assumption)).1, OverP_no (hF (by assumption)).2 hy45 (by omega) (by omega)⟩, by omega⟩
                · simp only []; omega
          · skip
            refine WS.off rfl (WS.off rfl (WS.off rfl (WS.off rfl (WS.off rfl (WS.off rfl (WS.off rfl (WS.off rfl (WS.op rfl rfl (WS.op rfl rfl ?_)))))))))
            refine WS.off rfl (WS.off rfl (WS.off rfl (WS.off rfl (WS.off rfl (WS.off rfl (WS.off rfl (WS.off rfl (WS.op rfl rfl (WS.op rfl rfl ?_)))))))))
            refine WS.nil [(1, _), (3, _), (4, _)] rfl ?_
            refine WC.run ?_
            refine WS.op rfl rfl (WS.opV (.int .i64 (((i + 1) : Nat) : Int)) rfl rfl (add_i64 (a := i) (b := 1) (by omega)) (WS.op rfl rfl (WS.nil [(1, _), (3, _), (4, _)] rfl ?_)))
            refine ⟨(true, i + 1), rfl, ⟨((M13.bare.focus 0 rfl).take 1), ?_⟩, ?_⟩
            · exact ⟨fun _ => (by first | exact hT (by assumption) | exact .inr ⟨y45, List.mem_of_getElem? hy45, by omega⟩), fun q => (nomatch q), by omega⟩
            · simp only []; omega
        · skip
          refine WS.nil [(1, _), (3, _), (4, _), (37, _)] rfl ?_
          refine WC.condF rfl ?_
          refine WC.exit ?_
          refine WC.seq ?_
          refine WC.run ?_
          refine WS.op rfl rfl (WS.op rfl rfl (WS.nil [(2, _)] rfl ?_))
          refine WC.ret ?_
          cases hb1 : big
          · skip
            refine ⟨[_], (res_tmp rfl res_nil), ?_⟩
            have hq := hF (by assumption)
            rw [List.take_of_length_le (by omega)] at hq
            exact ⟨by rw [decide_eq_false (p := OverC c) (fun q => by rcases q with q | q; exact hq.1 q; exact hq.2 q)]; rfl, M13.bare.take 0⟩
          · skip
            refine ⟨[_], (res_tmp rfl res_nil), ?_⟩
            exact ⟨by rw [decide_eq_true (hT (by assumption))]; rfl, M13.bare.take 0⟩
    · skip
      refine WS.op rfl rfl (WS.op rfl rfl (WS.op rfl rfl (WS.op rfl (op_ld (M3.at 0 rfl) rfl rfl) (WS.op rfl (op_lenS (l := c.to) rfl) ?_))))
      refine WS.gtrN (a := (c.to).length) (b := 16) rfl rfl rfl (fun e19 => ?_) (fun e19 => ?_)
      · skip
        refine WS.op rfl rfl (WS.op rfl rfl (WS.off rfl (WS.off rfl (WS.off rfl (WS.off rfl (WS.op rfl rfl (WS.op rfl rfl (WS.off rfl (WS.off rfl ?_)))))))))
        refine WS.off rfl (WS.off rfl (WS.op rfl rfl (WS.op rfl rfl (WS.nil [(1, _), (3, _)] rfl ?_))))
        refine WC.seq ?_
        refine WC.seq ?_
        refine WC.run ?_
        refine WS.op rfl rfl (WS.nil [(1, _), (3, _), (4, _)] rfl ?_)
        refine WC.block ?_
        obtain ⟨L14, eL16, M15⟩ := Mem.name M3.bare
        refine WC.loop (σ := Bool × Nat) (fun ((big, i)) => [(1, (.pointer (some ⟨p1, 0, none⟩))), (3, (.bool big)), (4, (.int .i64 ((i : Nat) : Int)))]) (fun ((big, i)) hh => Mem h hh (L14) [] ∧ (big = true → OverC c) ∧ (big = false → ¬ OverH c ∧ ¬ OverP (c.ps.take i)) ∧ i ≤ c.ps.length) (fun ((big, i)) => c.ps.length - i) (true, 0) rfl ⟨M15, ?_⟩ ?_
        · first | exact ⟨fun _ => .inl (by unfold OverH; omega), fun q => (nomatch q), by omega⟩ | exact ⟨fun q => (nomatch q), fun _ => ⟨by unfold OverH; omega, by rintro ⟨p, hp, _⟩; simp at hp⟩, by omega⟩
        · rintro ⟨big, i⟩ h17 ⟨M18, ⟨hT, hF, hi1⟩⟩
          subst eL16
          refine WC.env [(1, _), (3, _), (4, _)] rfl ?_
          refine WC.seq ?_
          refine WC.seq ?_
          refine WC.run ?_
          refine WS.op rfl rfl (WS.op rfl rfl (WS.op rfl (op_ld (M18.at 0 rfl) rfl rfl) (WS.op rfl (op_lenVS A rfl) ?_)))
          refine WS.lssN (a := i) (b := (c.ps).length) rfl rfl rfl (fun e37 => ?_) (fun e37 => ?_)
          · skip
            refine WS.nil [(1, _), (3, _), (4, _), (37, _)] rfl ?_
            refine WC.condT rfl ?_
            refine WC.skip ?_
            refine WC.seq ?_
            refine WC.block ?_
            refine WC.run ?_
            refine WS.op rfl rfl (WS.op rfl rfl ?_)
            cases hb1 : big
            · skip
              refine WS.op rfl rfl (WS.op rfl (op_ld (M18.at 0 rfl) rfl rfl) (WS.op rfl rfl ?_))
              obtain ⟨y45, hy45⟩ : ∃ y, (c.ps)[i]? = some y := ⟨_, List.getElem?_eq_getElem (show i < (c.ps).length by first | omega | (simp only [List.length_drop, List.length_take, List.length_append, List.length_cons, List.length_nil, List.length_singleton]; omega) | (simp only [List.length_drop, List.length_take, List.length_append, List.length_cons, List.length_nil, List.length_singleton] at *; omega))⟩
              refine WS.iaVS A i hy45 rfl rfl rfl rfl ?_
              intro b45_ o45_ ha45
              refine WS.op rfl rfl (WS.op rfl (op_ldH rfl (At.ld (ha45.mono M18.sub) rfl)) (WS.op rfl (op_lenS (l := y45.ky) rfl) ?_))
              refine WS.gtrN (a := (y45.ky).length) (b := 16) rfl rfl rfl (fun e49 => ?_) (fun e49 => ?_)
              · skip
                refine WS.op rfl rfl (WS.op rfl rfl (WS.off rfl (WS.off rfl (WS.off rfl (WS.off rfl (WS.off rfl (WS.off rfl (WS.off rfl (WS.off rfl ?_)))))))))
                refine WS.op rfl rfl (WS.op rfl rfl (WS.nil [(1, _), (3, _), (4, _)] rfl ?_))
                refine WC.run ?_
                refine WS.op rfl rfl (WS.opV (.int .i64 (((i + 1) : Nat) : Int)) rfl rfl (add_i64 (a := i) (b := 1) (by omega)) (WS.op rfl rfl (WS.nil [(1, _), (3, _), (4, _)] rfl ?_)))
                refine ⟨(true, i + 1), rfl, ⟨((M18.bare.focus 0 rfl).take 1), ?_⟩, ?_⟩
                · exact ⟨fun _ => (by first | exact hT (by assumption) | exact .inr ⟨y45, List.mem_of_getElem? hy45, by omega⟩), fun q => (nomatch q), by omega⟩
                · simp only []; omega
              · skip
                refine WS.op rfl rfl (WS.op rfl rfl (WS.op rfl rfl (WS.op rfl (op_ld (M18.at 0 rfl) rfl rfl) (WS.op rfl rfl ?_))))
                refine WS.iaVS A i hy45 rfl rfl rfl rfl ?_
                intro b55_ o55_ ha55
                refine WS.op rfl rfl (WS.op rfl (op_ldH rfl (At.ld (ha55.mono M18.sub) rfl)) (WS.op rfl (op_lenS (l := y45.va) rfl) ?_))
                refine WS.gtrN (a := (y45.va).length) (b := 64) rfl rfl rfl (fun e59 => ?_) (fun e59 => ?_)
                · skip
                  refine WS.op rfl rfl (WS.op rfl rfl (WS.nil [(1, _), (3, _), (4, _)] rfl ?_))
                  refine WC.run ?_
                  refine WS.op rfl rfl (WS.opV (.int .i64 (((i + 1) : Nat) : Int)) rfl rfl (add_i64 (a := i) (b := 1) (by omega)) (WS.op rfl rfl (WS.nil [(1, _), (3, _), (4, _)] rfl ?_)))
                  refine ⟨(true, i + 1), rfl, ⟨((M18.bare.focus 0 rfl).take 1), ?_⟩, ?_⟩
                  · exact ⟨fun _ => (by first | exact hT (by assumption) | exact .inr ⟨y45, List.mem_of_getElem? hy45, by omega⟩), fun q => (nomatch q), by omega⟩
                  · simp only []; omega
                · skip
                  refine WS.op rfl rfl (WS.op rfl rfl (WS.nil [(1, _), (3, _), (4, _)] rfl ?_))
                  refine WC.run ?_
                  refine WS.op rfl rfl (WS.opV (.int .i64 (((i + 1) : Nat) : Int)) rfl rfl (add_i64 (a := i) (b := 1) (by omega)) (WS.op rfl rfl (WS.nil [(1, _), (3, _), (4, _)] rfl ?_)))
                  refine ⟨(false, i + 1), rfl, ⟨((M18.bare.focus 0 rfl).take 1), ?_⟩, ?_⟩
                  · exact ⟨fun q => (nomatch q), fun _ => ⟨(hF (by assumption)).1, OverP_no (hF (by assumption)).2 hy45 (by omega) (by omega)⟩, by omega⟩
                  · simp only []; omega
            · skip
              refine WS.off rfl (WS.off rfl (WS.off rfl (WS.off rfl (WS.off rfl (WS.off rfl (WS.off rfl (WS.off rfl (WS.op rfl rfl (WS.op rfl rfl ?_)))))))))
              refine WS.off rfl (WS.off rfl (WS.off rfl (WS.off rfl (WS.off rfl (WS.off rfl (WS.off rfl (WS.off rfl (WS.op rfl rfl (WS.op rfl rfl ?_)))))))))
              refine WS.nil [(1, _), (3, _), (4, _)] rfl ?_
              refine WC.run ?_
              refine WS.op rfl rfl (WS.opV (.int .i64 (((i + 1) : Nat) : Int)) rfl rfl (add_i64 (a := i) (b := 1) (by omega)) (WS.op rfl rfl (WS.nil [(1, _), (3, _), (4, _)] rfl ?_)))
              refine ⟨(true, i + 1), rfl, ⟨((M18.bare.focus 0 rfl).take 1), ?_⟩, ?_⟩
              · exact ⟨fun _ => (by first | exact hT (by assumption) | exact .inr ⟨y45, List.mem_of_getElem? hy45, by omega⟩), fun q => (nomatch q), by omega⟩
              · simp only []; omega
          · skip
            refine WS.nil [(1, _), (3, _), (4, _), (37, _)] rfl ?_
            refine WC.condF rfl ?_
            refine WC.exit ?_
            refine WC.seq ?_
            refine WC.run ?_
            refine WS.op rfl rfl (WS.op rfl rfl (WS.nil [(2, _)] rfl ?_))
            refine WC.ret ?_
            cases hb1 : big
            · skip
              refine ⟨[_], (res_tmp rfl res_nil), ?_⟩
              have hq := hF (by assumption)
              rw [List.take_of_length_le (by omega)] at hq
              exact ⟨by rw [decide_eq_false (p := OverC c) (fun q => by rcases q with q | q; exact hq.1 q; exact hq.2 q)]; rfl, M18.bare.take 0⟩
            · skip
              refine ⟨[_], (res_tmp rfl res_nil), ?_⟩
              exact ⟨by rw [decide_eq_true (hT (by assumption))]; rfl, M18.bare.take 0⟩
      · skip
        refine WS.op rfl rfl (WS.op rfl rfl (WS.op rfl rfl (WS.op rfl (op_ld (M3.at 0 rfl) rfl rfl) (WS.op rfl (op_lenS (l := c.va) rfl) ?_))))
        refine WS.gtrN (a := (c.va).length) (b := 64) rfl rfl rfl (fun e25 => ?_) (fun e25 => ?_)
        · skip
          refine WS.op rfl rfl (WS.op rfl rfl (WS.off rfl (WS.off rfl (WS.off rfl (WS.off rfl (WS.op rfl rfl (WS.op rfl rfl (WS.nil [(1, _), (3, _)] rfl ?_))))))))
          refine WC.seq ?_
          refine WC.seq ?_
          refine WC.run ?_
          refine WS.op rfl rfl (WS.nil [(1, _), (3, _), (4, _)] rfl ?_)
          refine WC.block ?_
          obtain ⟨L19, eL21, M20⟩ := Mem.name M3.bare
          refine WC.loop (σ := Bool × Nat) (fun ((big, i)) => [(1, (.pointer (some ⟨p1, 0, none⟩))), (3, (.bool big)), (4, (.int .i64 ((i : Nat) : Int)))]) (fun ((big, i)) hh => Mem h hh (L19) [] ∧ (big = true → OverC c) ∧ (big = false → ¬ OverH c ∧ ¬ OverP (c.ps.take i)) ∧ i ≤ c.ps.length) (fun ((big, i)) => c.ps.length - i) (true, 0) rfl ⟨M20, ?_⟩ ?_
          · first | exact ⟨fun _ => .inl (by unfold OverH; omega), fun q => (nomatch q), by omega⟩ | exact ⟨fun q => (nomatch q), fun _ => ⟨by unfold OverH; omega, by rintro ⟨p, hp, _⟩; simp at hp⟩, by omega⟩
          · rintro ⟨big, i⟩ h22 ⟨M23, ⟨hT, hF, hi1⟩⟩
            subst eL21
            refine WC.env [(1, _), (3, _), (4, _)] rfl ?_
            refine WC.seq ?_
            refine WC.seq ?_
            refine WC.run ?_
            refine WS.op rfl rfl (WS.op rfl rfl (WS.op rfl (op_ld (M23.at 0 rfl) rfl rfl) (WS.op rfl (op_lenVS A rfl) ?_)))
            refine WS.lssN (a := i) (b := (c.ps).length) rfl rfl rfl (fun e37 => ?_) (fun e37 => ?_)
            · skip
              refine WS.nil [(1, _), (3, _), (4, _), (37, _)] rfl ?_
              refine WC.condT rfl ?_
              refine WC.skip ?_
              refine WC.seq ?_
              refine WC.block ?_
              refine WC.run ?_
              refine WS.op rfl rfl (WS.op rfl rfl ?_)
              cases hb1 : big
              · skip
                refine WS.op rfl rfl (WS.op rfl (op_ld (M23.at 0 rfl) rfl rfl) (WS.op rfl rfl ?_))
                obtain ⟨y45, hy45⟩ : ∃ y, (c.ps)[i]? = some y := ⟨_, List.getElem?_eq_getElem (show i < (c.ps).length by first | omega | (simp only [List.length_drop, List.length_take, List.length_append, List.length_cons, List.length_nil, List.length_singleton]; omega) | (simp only [List.length_drop, List.length_take, List.length_append, List.length_cons, List.length_nil, List.length_singleton] at *; omega))⟩
                refine WS.iaVS A i hy45 rfl rfl rfl rfl ?_
                intro b45_ o45_ ha45
                refine WS.op rfl rfl (WS.op rfl (op_ldH rfl (At.ld (ha45.mono M23.sub) rfl)) (WS.op rfl (op_lenS (l := y45.ky) rfl) ?_))
                refine WS.gtrN (a := (y45.ky).length) (b := 16) rfl rfl rfl (fun e49 => ?_) (fun e49 => ?_)
                · skip
                  refine WS.op rfl rfl (WS.op rfl rfl (WS.off rfl (WS.off rfl (WS.off rfl (WS.off rfl (WS.off rfl (WS.off rfl (WS.off rfl (WS.off rfl ?_)))))))))
                  refine WS.op rfl rfl (WS.op rfl rfl (WS.nil [(1, _), (3, _), (4, _)] rfl ?_))
                  refine WC.run ?_
                  refine WS.op rfl rfl (WS.opV (.int .i64 (((i + 1) : Nat) : Int)) rfl rfl (add_i64 (a := i) (b := 1) (by omega)) (WS.op rfl rfl (WS.nil [(1, _), (3, _), (4, _)] rfl ?_)))
                  refine ⟨(true, i + 1), rfl, ⟨((M23.bare.focus 0 rfl).take 1), ?_⟩, ?_⟩
                  · exact ⟨fun _ => (by first | exact hT (by assumption) | exact .inr ⟨y45, List.mem_of_getElem? hy45, by omega⟩), fun q => (nomatch q), by omega⟩
                  · simp only []; omega
                · skip
                  refine WS.op rfl rfl (WS.op rfl rfl (WS.op rfl rfl (WS.op rfl (op_ld (M23.at 0 rfl) rfl rfl) (WS.op rfl rfl ?_))))
                  refine WS.iaVS A i hy45 rfl rfl rfl rfl ?_
                  intro b55_ o55_ ha55
                  refine WS.op rfl rfl (WS.op rfl (op_ldH rfl (At.ld (ha55.mono M23.sub) rfl)) (WS.op rfl (op_lenS (l := y45.va) rfl) ?_))
                  refine WS.gtrN (a := (y45.va).length) (b := 64) rfl rfl rfl (fun e59 => ?_) (fun e59 => ?_)
                  · skip
                    refine WS.op rfl rfl (WS.op rfl rfl (WS.nil [(1, _), (3, _), (4, _)] rfl ?_))
                    refine WC.run ?_
                    refine WS.op rfl rfl (WS.opV (.int .i64 (((i + 1) : Nat) : Int)) rfl rfl (add_i64 (a := i) (b := 1) (by omega)) (WS.op rfl rfl (WS.nil [(1, _), (3, _), (4, _)] rfl ?_)))
                    refine ⟨(true, i + 1), rfl, ⟨((M23.bare.focus 0 rfl).take 1), ?_⟩, ?_⟩
                    · exact ⟨fun _ => (by first | exact hT (by assumption) | exact .inr ⟨y45, List.mem_of_getElem? hy45, by omega⟩), fun q => (nomatch q), by omega⟩
                    · simp only []; omega
                  · skip
                    refine WS.op rfl rfl (WS.op rfl rfl (WS.nil [(1, _), (3, _), (4, _)] rfl ?_))
                    refine WC.run ?_
                    refine WS.op rfl rfl (WS.opV (.int .i64 (((i + 1) : Nat) : Int)) rfl rfl (add_i64 (a := i) (b := 1) (by omega)) (WS.op rfl rfl (WS.nil [(1, _), (3, _), (4, _)] rfl ?_)))
                    refine ⟨(false, i + 1), rfl, ⟨((M23.bare.focus 0 rfl).take 1), ?_⟩, ?_⟩
                    · exact ⟨fun q => (nomatch q), fun _ => ⟨(hF (by assumption)).1, OverP_no (hF (by assumption)).2 hy45 (by omega) (by omega)⟩, by omega⟩
                    · simp only []; omega
              · skip
                refine WS.off rfl (WS.off rfl (WS.off rfl (WS.off rfl (WS.off rfl (WS.off rfl (WS.off rfl (WS.off rfl (WS.op rfl rfl (WS.op rfl rfl ?_)))))))))
                refine WS.off rfl (WS.off rfl (WS.off rfl (WS.off rfl (WS.off rfl (WS.off rfl (WS.off rfl (WS.off rfl (WS.op rfl rfl (WS.op rfl rfl ?_)))))))))
                refine WS.nil [(1, _), (3, _), (4, _)] rfl ?_
                refine WC.run ?_
                refine WS.op rfl rfl (WS.opV (.int .i64 (((i + 1) : Nat) : Int)) rfl rfl (add_i64 (a := i) (b := 1) (by omega)) (WS.op rfl rfl (WS.nil [(1, _), (3, _), (4, _)] rfl ?_)))
                refine ⟨(true, i + 1), rfl, ⟨((M23.bare.focus 0 rfl).take 1), ?_⟩, ?_⟩
                · exact ⟨fun _ => (by first | exact hT (by assumption) | exact .inr ⟨y45, List.mem_of_getElem? hy45, by omega⟩), fun q => (nomatch q), by omega⟩
                · simp only []; omega
            · skip
              refine WS.nil [(1, _), (3, _), (4, _), (37, _)] rfl ?_
              refine WC.condF rfl ?_
              refine WC.exit ?_
              refine WC.seq ?_
              refine WC.run ?_
              refine WS.op rfl rfl (WS.op rfl rfl (WS.nil [(2, _)] rfl ?_))
              refine WC.ret ?_
              cases hb1 : big
              · skip
                refine ⟨[_], (res_tmp rfl res_nil), ?_⟩
                have hq := hF (by assumption)
                rw [List.take_of_length_le (by omega)] at hq
                exact ⟨by rw [decide_eq_false (p := OverC c) (fun q => by rcases q with q | q; exact hq.1 q; exact hq.2 q)]; rfl, M23.bare.take 0⟩
              · skip
                refine ⟨[_], (res_tmp rfl res_nil), ?_⟩
                exact ⟨by rw [decide_eq_true (hT (by assumption))]; rfl, M23.bare.take 0⟩
        · skip
          refine WS.op rfl rfl (WS.op rfl rfl (WS.op rfl rfl (WS.op rfl (op_ld (M3.at 0 rfl) rfl rfl) (WS.op rfl (op_lenS (l := c.ex) rfl) ?_))))
          refine WS.gtrN (a := (c.ex).length) (b := 64) rfl rfl rfl (fun e31 => ?_) (fun e31 => ?_)
          · skip
            refine WS.op rfl rfl (WS.op rfl rfl (WS.nil [(1, _), (3, _)] rfl ?_))
            refine WC.seq ?_
            refine WC.seq ?_
            refine WC.run ?_
            refine WS.op rfl rfl (WS.nil [(1, _), (3, _), (4, _)] rfl ?_)
            refine WC.block ?_
            obtain ⟨L24, eL26, M25⟩ := Mem.name M3.bare
            refine WC.loop (σ := Bool × Nat) (fun ((big, i)) => [(1, (.pointer (some ⟨p1, 0, none⟩))), (3, (.bool big)), (4, (.int .i64 ((i : Nat) : Int)))]) (fun ((big, i)) hh => Mem h hh (L24) [] ∧ (big = true → OverC c) ∧ (big = false → ¬ OverH c ∧ ¬ OverP (c.ps.take i)) ∧ i ≤ c.ps.length) (fun ((big, i)) => c.ps.length - i) (true, 0) rfl ⟨M25, ?_⟩ ?_
            · first | exact ⟨fun _ => .inl (by unfold OverH; omega), fun q => (nomatch q), by omega⟩ | exact ⟨fun q => (nomatch q), fun _ => ⟨by unfold OverH; omega, by rintro ⟨p, hp, _⟩; simp at hp⟩, by omega⟩
            · rintro ⟨big, i⟩ h27 ⟨M28, ⟨hT, hF, hi1⟩⟩
              subst eL26
              refine WC.env [(1, _), (3, _), (4, _)] rfl ?_
              refine WC.seq ?_
              refine WC.seq ?_
              refine WC.run ?_
              refine WS.op rfl rfl (WS.op rfl rfl (WS.op rfl (op_ld (M28.at 0 rfl) rfl rfl) (WS.op rfl (op_lenVS A rfl) ?_)))
              refine WS.lssN (a := i) (b := (c.ps).length) rfl rfl rfl (fun e37 => ?_) (fun e37 => ?_)
              · skip
                refine WS.nil [(1, _), (3, _), (4, _), (37, _)] rfl ?_
                refine WC.condT rfl ?_
                refine WC.skip ?_
                refine WC.seq ?_
                refine WC.block ?_
                refine WC.run ?_
                refine WS.op rfl rfl (WS.op rfl rfl ?_)
                cases hb1 : big
                · skip
                  refine WS.op rfl rfl (WS.op rfl (op_ld (M28.at 0 rfl) rfl rfl) (WS.op rfl rfl ?_))
                  obtain ⟨y45, hy45⟩ : ∃ y, (c.ps)[i]? = some y := ⟨_, List.getElem?_eq_getElem (show i < (c.ps).length by first | omega | (simp only [List.length_drop, List.length_take, List.length_append, List.length_cons, List.length_nil, List.length_singleton]; omega) | (simp only [List.length_drop, List.length_take, List.length_append, List.length_cons, List.length_nil, List.length_singleton] at *; omega))⟩
                  refine WS.iaVS A i hy45 rfl rfl rfl rfl ?_
                  intro b45_ o45_ ha45
                  refine WS.op rfl rfl (WS.op rfl (op_ldH rfl (At.ld (ha45.mono M28.sub) rfl)) (WS.op rfl (op_lenS (l := y45.ky) rfl) ?_))
                  refine WS.gtrN (a := (y45.ky).length) (b := 16) rfl rfl rfl (fun e49 => ?_) (fun e49 => ?_)
                  · skip
                    refine WS.op rfl rfl (WS.op rfl rfl (WS.off rfl (WS.off rfl (WS.off rfl (WS.off rfl (WS.off rfl (WS.off rfl (WS.off rfl (WS.off rfl ?_)))))))))
                    refine WS.op rfl rfl (WS.op rfl rfl (WS.nil [(1, _), (3, _), (4, _)] rfl ?_))
                    refine WC.run ?_
                    refine WS.op rfl rfl (WS.opV (.int .i64 (((i + 1) : Nat) : Int)) rfl rfl (add_i64 (a := i) (b := 1) (by omega)) (WS.op rfl rfl (WS.nil [(1, _), (3, _), (4, _)] rfl ?_)))
                    refine ⟨(true, i + 1), rfl, ⟨((M28.bare.focus 0 rfl).take 1), ?_⟩, ?_⟩
                    · exact ⟨fun _ => (by first | exact hT (by assumption) | exact .inr ⟨y45, List.mem_of_getElem? hy45, by omega⟩), fun q => (nomatch q), by omega⟩
                    · simp only []; omega
                  · skip
                    refine WS.op rfl rfl (WS.op rfl rfl (WS.op rfl rfl (WS.op rfl (op_ld (M28.at 0 rfl) rfl rfl) (WS.op rfl rfl ?_))))
                    refine WS.iaVS A i hy45 rfl rfl rfl rfl ?_
                    intro b55_ o55_ ha55
                    refine WS.op rfl rfl (WS.op rfl (op_ldH rfl (At.ld (ha55.mono M28.sub) rfl)) (WS.op rfl (op_lenS (l := y45.va) rfl) ?_))
                    refine WS.gtrN (a := (y45.va).length) (b := 64) rfl rfl rfl (fun e59 => ?_) (fun e59 => ?_)
                    · skip
                      refine WS.op rfl rfl (WS.op rfl rfl (WS.nil [(1, _), (3, _), (4, _)] rfl ?_))
                      refine WC.run ?_
                      refine WS.op rfl rfl (WS.opV (.int .i64 (((i + 1) : Nat) : Int)) rfl rfl (add_i64 (a := i) (b := 1) (by omega)) (WS.op rfl rfl (WS.nil [(1, _), (3, _), (4, _)] rfl ?_)))
                      refine ⟨(true, i + 1), rfl, ⟨((M28.bare.focus 0 rfl).take 1), ?_⟩, ?_⟩
                      · exact ⟨fun _ => (by first | exact hT (by assumption) | exact .inr ⟨y45, List.mem_of_getElem? hy45, by omega⟩), fun q => (nomatch q), by omega⟩
                      · simp only []; omega
                    · skip
                      refine WS.op rfl rfl (WS.op rfl rfl (WS.nil [(1, _), (3, _), (4, _)] rfl ?_))
                      refine WC.run ?_
                      refine WS.op rfl rfl (WS.opV (.int .i64 (((i + 1) : Nat) : Int)) rfl rfl (add_i64 (a := i) (b := 1) (by omega)) (WS.op rfl rfl (WS.nil [(1, _), (3, _), (4, _)] rfl ?_)))
                      refine ⟨(false, i + 1), rfl, ⟨((M28.bare.focus 0 rfl).take 1), ?_⟩, ?_⟩
                      · exact ⟨fun q => (nomatch q), fun _ => ⟨(hF (by assumption)).1, OverP_no (hF (by assumption)).2 hy45 (by omega) (by omega)⟩, by omega⟩
                      · simp only []; omega
                · skip
                  refine WS.off rfl (WS.off rfl (WS.off rfl (WS.off rfl (WS.off rfl (WS.off rfl (WS.off rfl (WS.off rfl (WS.op rfl rfl (WS.op rfl rfl ?_)))))))))
                  refine WS.off rfl (WS.off rfl (WS.off rfl (WS.off rfl (WS.off rfl (WS.off rfl (WS.off rfl (WS.off rfl (WS.op rfl rfl (WS.op rfl rfl ?_)))))))))
                  refine WS.nil [(1, _), (3, _), (4, _)] rfl ?_
                  refine WC.run ?_
                  refine WS.op rfl rfl (WS.opV (.int .i64 (((i + 1) : Nat) : Int)) rfl rfl (add_i64 (a := i) (b := 1) (by omega)) (WS.op rfl rfl (WS.nil [(1, _), (3, _), (4, _)] rfl ?_)))
                  refine ⟨(true, i + 1), rfl, ⟨((M28.bare.focus 0 rfl).take 1), ?_⟩, ?_⟩
                  · exact ⟨fun _ => (by first | exact hT (by assumption) | exact .inr ⟨y45, List.mem_of_getElem? hy45, by omega⟩), fun q => (nomatch q), by omega⟩
                  · simp only []; omega
              · skip
                refine WS.nil [(1, _), (3, _), (4, _), (37, _)] rfl ?_
                refine WC.condF rfl ?_
                refine WC.exit ?_
                refine WC.seq ?_
                refine WC.run ?_
                refine WS.op rfl rfl (WS.op rfl rfl (WS.nil [(2, _)] rfl ?_))
                refine WC.ret ?_
                cases hb1 : big
                · skip
                  refine ⟨[_], (res_tmp rfl res_nil), ?_⟩
                  have hq := hF (by assumption)
                  rw [List.take_of_length_le (by omega)] at hq
                  exact ⟨by rw [decide_eq_false (p := OverC c) (fun q => by rcases q with q | q; exact hq.1 q; exact hq.2 q)]; rfl, M28.bare.take 0⟩
                · skip
                  refine ⟨[_], (res_tmp rfl res_nil), ?_⟩
                  exact ⟨by rw [decide_eq_true (hT (by assumption))]; rfl, M28.bare.take 0⟩
          · skip
            refine WS.op rfl rfl (WS.op rfl rfl (WS.nil [(1, _), (3, _)] rfl ?_))
            refine WC.seq ?_
            refine WC.seq ?_
            refine WC.run ?_
            refine WS.op rfl rfl (WS.nil [(1, _), (3, _), (4, _)] rfl ?_)
            refine WC.block ?_
            obtain ⟨L29, eL31, M30⟩ := Mem.name M3.bare
            refine WC.loop (σ := Bool × Nat) (fun ((big, i)) => [(1, (.pointer (some ⟨p1, 0, none⟩))), (3, (.bool big)), (4, (.int .i64 ((i : Nat) : Int)))]) (fun ((big, i)) hh => Mem h hh (L29) [] ∧ (big = true → OverC c) ∧ (big = false → ¬ OverH c ∧ ¬ OverP (c.ps.take i)) ∧ i ≤ c.ps.length) (fun ((big, i)) => c.ps.length - i) (false, 0) rfl ⟨M30, ?_⟩ ?_
            · first | exact ⟨fun _ => .inl (by unfold OverH; omega), fun q => (nomatch q), by omega⟩ | exact ⟨fun q => (nomatch q), fun _ => ⟨by unfold OverH; omega, by rintro ⟨p, hp, _⟩; simp at hp⟩, by omega⟩
            · rintro ⟨big, i⟩ h32 ⟨M33, ⟨hT, hF, hi1⟩⟩
              subst eL31
              refine WC.env [(1, _), (3, _), (4, _)] rfl ?_
              refine WC.seq ?_
              refine WC.seq ?_
              refine WC.run ?_
              refine WS.op rfl rfl (WS.op rfl rfl (WS.op rfl (op_ld (M33.at 0 rfl) rfl rfl) (WS.op rfl (op_lenVS A rfl) ?_)))
              refine WS.lssN (a := i) (b := (c.ps).length) rfl rfl rfl (fun e37 => ?_) (fun e37 => ?_)
              · skip
                refine WS.nil [(1, _), (3, _), (4, _), (37, _)] rfl ?_
                refine WC.condT rfl ?_
                refine WC.skip ?_
                refine WC.seq ?_
                refine WC.block ?_
                refine WC.run ?_
                refine WS.op rfl rfl (WS.op rfl rfl ?_)
                cases hb1 : big
                · skip
                  refine WS.op rfl rfl (WS.op rfl (op_ld (M33.at 0 rfl) rfl rfl) (WS.op rfl rfl ?_))
                  obtain ⟨y45, hy45⟩ : ∃ y, (c.ps)[i]? = some y := ⟨_, List.getElem?_eq_getElem (show i < (c.ps).length by first | omega | (simp only [List.length_drop, List.length_take, List.length_append, List.length_cons, List.length_nil, List.length_singleton]; omega) | (simp only [List.length_drop, List.length_take, List.length_append, List.length_cons, List.length_nil, List.length_singleton] at *; omega))⟩
                  refine WS.iaVS A i hy45 rfl rfl rfl rfl ?_
                  intro b45_ o45_ ha45
                  refine WS.op rfl rfl (WS.op rfl (op_ldH rfl (At.ld (ha45.mono M33.sub) rfl)) (WS.op rfl (op_lenS (l := y45.ky) rfl) ?_))
                  refine WS.gtrN (a := (y45.ky).length) (b := 16) rfl rfl rfl (fun e49 => ?_) (fun e49 => ?_)
                  · skip
                    refine WS.op rfl rfl (WS.op rfl rfl (WS.off rfl (WS.off rfl (WS.off rfl (WS.off rfl (WS.off rfl (WS.off rfl (WS.off rfl (WS.off rfl ?_)))))))))
                    refine WS.op rfl rfl (WS.op rfl rfl (WS.nil [(1, _), (3, _), (4, _)] rfl ?_))
                    refine WC.run ?_
                    refine WS.op rfl rfl (WS.opV (.int .i64 (((i + 1) : Nat) : Int)) rfl rfl (add_i64 (a := i) (b := 1) (by omega)) (WS.op rfl rfl (WS.nil [(1, _), (3, _), (4, _)] rfl ?_)))
                    refine ⟨(true, i + 1), rfl, ⟨((M33.bare.focus 0 rfl).take 1), ?_⟩, ?_⟩
                    · exact ⟨fun _ => (by first | exact hT (by assumption) | exact .inr ⟨y45, List.mem_of_getElem? hy45, by omega⟩), fun q => (nomatch q), by omega⟩
                    · simp only []; omega
                  · skip
                    refine WS.op rfl rfl (WS.op rfl rfl (WS.op rfl rfl (WS.op rfl (op_ld (M33.at 0 rfl) rfl rfl) (WS.op rfl rfl ?_))))
                    refine WS.iaVS A i hy45 rfl rfl rfl rfl ?_
                    intro b55_ o55_ ha55
                    refine WS.op rfl rfl (WS.op rfl (op_ldH rfl (At.ld (ha55.mono M33.sub) rfl)) (WS.op rfl (op_lenS (l := y45.va) rfl) ?_))
                    refine WS.gtrN (a := (y45.va).length) (b := 64) rfl rfl rfl (fun e59 => ?_) (fun e59 => ?_)
                    · skip
                      refine WS.op rfl rfl (WS.op rfl rfl (WS.nil [(1, _), (3, _), (4, _)] rfl ?_))
                      refine WC.run ?_
                      refine WS.op rfl rfl (WS.opV (.int .i64 (((i + 1) : Nat) : Int)) rfl rfl (add_i64 (a := i) (b := 1) (by omega)) (WS.op rfl rfl (WS.nil [(1, _), (3, _), (4, _)] rfl ?_)))
                      refine ⟨(true, i + 1), rfl, ⟨((M33.bare.focus 0 rfl).take 1), ?_⟩, ?_⟩
                      · exact ⟨fun _ => (by first | exact hT (by assumption) | exact .inr ⟨y45, List.mem_of_getElem? hy45, by omega⟩), fun q => (nomatch q), by omega⟩
                      · simp only []; omega
                    · skip
                      refine WS.op rfl rfl (WS.op rfl rfl (WS.nil [(1, _), (3, _), (4, _)] rfl ?_))
                      refine WC.run ?_
                      refine WS.op rfl rfl (WS.opV (.int .i64 (((i + 1) : Nat) : Int)) rfl rfl (add_i64 (a := i) (b := 1) (by omega)) (WS.op rfl rfl (WS.nil [(1, _), (3, _), (4, _)] rfl ?_)))
                      refine ⟨(false, i + 1), rfl, ⟨((M33.bare.focus 0 rfl).take 1), ?_⟩, ?_⟩
                      · exact ⟨fun q => (nomatch q), fun _ => ⟨(hF (by assumption)).1, OverP_no (hF (by assumption)).2 hy45 (by omega) (by omega)⟩, by omega⟩
                      · simp only []; omega
                · skip
                  refine WS.off rfl (WS.off rfl (WS.off rfl (WS.off rfl (WS.off rfl (WS.off rfl (WS.off rfl (WS.off rfl (WS.op rfl rfl (WS.op rfl rfl ?_)))))))))
                  refine WS.off rfl (WS.off rfl (WS.off rfl (WS.off rfl (WS.off rfl (WS.off rfl (WS.off rfl (WS.off rfl (WS.op rfl rfl (WS.op rfl rfl ?_)))))))))
                  refine WS.nil [(1, _), (3, _), (4, _)] rfl ?_
                  refine WC.run ?_
                  refine WS.op rfl rfl (WS.opV (.int .i64 (((i + 1) : Nat) : Int)) rfl rfl (add_i64 (a := i) (b := 1) (by omega)) (WS.op rfl rfl (WS.nil [(1, _), (3, _), (4, _)] rfl ?_)))
                  refine ⟨(true, i + 1), rfl, ⟨((M33.bare.focus 0 rfl).take 1), ?_⟩, ?_⟩
                  · exact ⟨fun _ => (by first | exact hT (by assumption) | exact .inr ⟨y45, List.mem_of_getElem? hy45, by omega⟩), fun q => (nomatch q), by omega⟩
                  · simp only []; omega
              · skip
                refine WS.nil [(1, _), (3, _), (4, _), (37, _)] rfl ?_
                refine WC.condF rfl ?_
                refine WC.exit ?_
                refine WC.seq ?_
                refine WC.run ?_
                refine WS.op rfl rfl (WS.op rfl rfl (WS.nil [(2, _)] rfl ?_))
                refine WC.ret ?_
                cases hb1 : big
                · skip
                  refine ⟨[_], (res_tmp rfl res_nil), ?_⟩
                  have hq := hF (by assumption)
                  rw [List.take_of_length_le (by omega)] at hq
                  exact ⟨by rw [decide_eq_false (p := OverC c) (fun q => by rcases q with q | q; exact hq.1 q; exact hq.2 q)]; rfl, M33.bare.take 0⟩
                · skip
                  refine ⟨[_], (res_tmp rfl res_nil), ?_⟩
                  exact ⟨by rw [decide_eq_true (hT (by assumption))]; rfl, M33.bare.take 0⟩
theorem Asks_ran (W : Mem h h [] []) {c : UInt8} : Cll tab0 19 [.int .u8 ((c.toNat : Nat) : Int)] h (fun v h2 => v = .bool (decide (8 ≤ c.toNat ∧ c.toNat ≤ 11)) ∧ Mem h h2 [] []) := by
  refine Cll.code rfl rfl ?_
  refine WC.env [(0, _)] rfl ?_
  refine WC.seq ?_
  refine WC.run ?_
  refine WS.op rfl rfl (WS.nil [(0, _)] rfl ?_)
  refine WC.seq ?_
  refine WC.run ?_
  refine WS.op rfl rfl ?_
  refine WS.geqN (a := (c).toNat) (b := 8) rfl rfl rfl (fun e4 => ?_) (fun e4 => ?_)
  · skip
    refine WS.op rfl rfl (WS.op rfl rfl ?_)
    refine WS.leqN (a := (c).toNat) (b := 11) rfl rfl rfl (fun e7 => ?_) (fun e7 => ?_)
    · skip
      refine WS.op rfl rfl (WS.op rfl rfl (WS.nil [(2, _)] rfl ?_))
      refine WC.ret ?_
      refine ⟨[_], (res_tmp rfl res_nil), ?_⟩
      exact ⟨vbt (by omega), W.bare.take 0⟩
    · skip
      refine WS.op rfl rfl (WS.op rfl rfl (WS.nil [(2, _)] rfl ?_))
      refine WC.ret ?_
      refine ⟨[_], (res_tmp rfl res_nil), ?_⟩
      exact ⟨vbf (by omega), W.bare.take 0⟩
  · skip
    refine WS.op rfl rfl (WS.off rfl (WS.off rfl (WS.op rfl rfl (WS.op rfl rfl (WS.nil [(2, _)] rfl ?_)))))
    refine WC.ret ?_
    refine ⟨[_], (res_tmp rfl res_nil), ?_⟩
    exact ⟨vbf (by omega), W.bare.take 0⟩
theorem opens_5 : OpensL Try.prog 5 layU8 1 (fun _ => True) := OpensL.u8 Try.underlying5 (by kernel_rfl)
theorem opens_9 : OpensL Try.prog 9 layStr 1 (fun a => a.length < 9223372036854775808) := OpensL.string Try.underlying9 (by kernel_rfl)
set_option maxRecDepth 100000 in
theorem opens_48 : OpensL Try.prog 48 (α := Part) (fun _ y cs => cs = KPart.cells y) 3 (fun y => y.ky.length < 9223372036854775808 ∧ y.va.length < 9223372036854775808) := by
  refine OpensL.struct (fs := [(5, 0), (9, 1), (9, 2)]) (L := (layP layU8 (layP layStr layStr))) (mk := fun (op, ky, va) => ⟨op, ky, va⟩) ?_ ?_ (by kernel_rfl) (by kernel_rfl) (OpensLF.cons (by decide) (by decide) opens_5 (OpensLF.cons (by decide) (by decide) opens_9 (OpensLF.one opens_9)))
  · rintro h ⟨op, ky, va⟩ cs ⟨_, _, rfl, rfl, ⟨_, _, rfl, rfl, rfl⟩⟩
    rfl
  · rintro ⟨op, ky, va⟩ ⟨k0, k1, k2⟩
    exact ⟨k1, k2⟩
theorem opens_23 : OpensL Try.prog 23 (laySl (fun _ y cs => cs = KPart.cells y) 3) 1 (fun l => l.length < 9223372036854775808 ∧ ∀ x ∈ l, (fun y => y.ky.length < 9223372036854775808 ∧ y.va.length < 9223372036854775808) x) := OpensL.slice Try.underlying23 (by kernel_rfl) (by decide) opens_48
theorem opens_22 : OpensL Try.prog 22 layU64 1 (fun _ => True) := OpensL.u64 Try.underlying22 (by kernel_rfl)
set_option maxRecDepth 100000 in
theorem opens_25 : OpensL Try.prog 25 (α := Cmd) (fun h c cs => ∃ V, cs = Cmd.cells c V ∧ SlL (fun _ y cs => cs = KPart.cells y) 3 h V c.ps) 12 (fun c => c.ky.length < 9223372036854775808 ∧ c.va.length < 9223372036854775808 ∧ c.ex.length < 9223372036854775808 ∧ c.fr.length < 9223372036854775808 ∧ c.to.length < 9223372036854775808 ∧ c.ps.length < 9223372036854775808 ∧ ∀ p ∈ c.ps, p.ky.length < 9223372036854775808 ∧ p.va.length < 9223372036854775808) := by
  refine OpensL.struct (fs := [(5, 0), (22, 1), (22, 2), (9, 3), (9, 4), (9, 5), (9, 6), (9, 7), (5, 8), (22, 9), (22, 10), (23, 11)]) (L := (layP layU8 (layP layU64 (layP layU64 (layP layStr (layP layStr (layP layStr (layP layStr (layP layStr (layP layU8 (layP layU64 (layP layU64 (laySl (fun _ y cs => cs = KPart.cells y) 3))))))))))))) (mk := fun (op, se, sq, ky, va, ex, fr, to, li, le, tt, ps) => ⟨op, se, sq, ky, va, ex, fr, to, li, le, tt, ps⟩) ?_ ?_ (by kernel_rfl) (by kernel_rfl) (OpensLF.cons (by decide) (by decide) opens_5 (OpensLF.cons (by decide) (by decide) opens_22 (OpensLF.cons (by decide) (by decide) opens_22 (OpensLF.cons (by decide) (by decide) opens_9 (OpensLF.cons (by decide) (by decide) opens_9 (OpensLF.cons (by decide) (by decide) opens_9 (OpensLF.cons (by decide) (by decide) opens_9 (OpensLF.cons (by decide) (by decide) opens_9 (OpensLF.cons (by decide) (by decide) opens_5 (OpensLF.cons (by decide) (by decide) opens_22 (OpensLF.cons (by decide) (by decide) opens_22 (OpensLF.one opens_23))))))))))))
  · rintro h ⟨op, se, sq, ky, va, ex, fr, to, li, le, tt, ps⟩ cs ⟨_, _, rfl, rfl, ⟨_, _, rfl, rfl, ⟨_, _, rfl, rfl, ⟨_, _, rfl, rfl, ⟨_, _, rfl, rfl, ⟨_, _, rfl, rfl, ⟨_, _, rfl, rfl, ⟨_, _, rfl, rfl, ⟨_, _, rfl, rfl, ⟨_, _, rfl, rfl, ⟨_, _, rfl, rfl, ⟨V, rfl, hS⟩⟩⟩⟩⟩⟩⟩⟩⟩⟩⟩⟩
    exact ⟨V, rfl, hS⟩
  · rintro ⟨op, se, sq, ky, va, ex, fr, to, li, le, tt, ps⟩ ⟨k0, k1, k2, k3, k4, k5, k6, k7, k8, k9, k10, k11⟩
    exact ⟨k3, k4, k5, k6, k7, k11⟩
theorem awake_ran (W : Mem h h [] []) : Cll tab0 11 [] h (fun v h2 => v = .bool true ∧ Mem h h2 [] []) := ⟨_, h, awake_run h, rfl, W⟩
set_option maxRecDepth 8000 in
theorem law_CmdWrites (W : Mem h h [] []) {c : Cmd} {a0 : List Value} (l0 : ∃ V, a0 = Cmd.cells c V ∧ SlL (fun _ y cs => cs = KPart.cells y) 3 h V c.ps) (k0 : c.ky.length < 9223372036854775808 ∧ c.va.length < 9223372036854775808 ∧ c.ex.length < 9223372036854775808 ∧ c.fr.length < 9223372036854775808 ∧ c.to.length < 9223372036854775808 ∧ c.ps.length < 9223372036854775808 ∧ ∀ p ∈ c.ps, p.ky.length < 9223372036854775808 ∧ p.va.length < 9223372036854775808) : Cll tab0 4 [.agg a0.toArray] h (fun v _ => v = .bool true) := by
  obtain ⟨V0, rfl, S0⟩ := l0
  have A : KPart.Sl h V0 c.ps := SlL.sl S0
  obtain ⟨P, n, rfl⟩ := A.shape
  refine Cll.code rfl rfl ?_
  refine WC.env [(0, _)] rfl ?_
  refine WC.seq ?_
  refine WC.run ?_
  refine WS.box W [_, _, _, _, _, _, _, _, _, _, _, _] rfl rfl rfl rfl ?_
  intro p1 h2 M3
  refine WS.op rfl rfl (WS.nil [(1, _)] rfl ?_)
  refine WC.seq ?_
  refine WC.seq ?_
  refine WC.run ?_
  refine WS.op rfl (op_lds [_, _, _, _, _, _, _, _, _, _, _, _] (M3.at 0 rfl) rfl (Nat.le_of_ble_eq_true rfl) rfl) ?_
  refine WS.call rfl rfl rfl (Great_ran M3.here (c := c) (A.mono M3.sub) (by assumption)) ?_
  rintro _ h4 ⟨⟨g4, rfl, hg4⟩, N5⟩
  have M6 := M3.trans N5
  refine WS.nil [(1, _), (4, _)] rfl ?_
  cases hb1 : g4
  · skip
    refine WC.condF rfl ?_
    refine WC.skip ?_
    refine WC.seq ?_
    refine WC.draw M6 [] rfl ?_
    intro rb7 h8 M9
    refine WS.op rfl (op_lds [_, _, _, _, _, _, _, _, _, _, _, _] (M9.at 0 rfl) rfl (Nat.le_of_ble_eq_true rfl) rfl) (WS.op rfl (op_lds [_, _, _, _, _, _, _, _, _, _, _, _] (M9.at 0 rfl) rfl (Nat.le_of_ble_eq_true rfl) rfl) ?_)
    refine WS.call rfl rfl rfl (Write_ran M9.here (c := c) (A.mono M9.sub) (by exact hg4 (by assumption))) ?_
    rintro _ h10 ⟨rfl, N11⟩
    have M12 := M9.trans N11
    refine WS.chk rfl (op_lds [_, _, _, _, _, _, _, _, _, _, _, _] (M12.at 0 rfl) rfl (Nat.le_of_ble_eq_true rfl) rfl) rfl (same_agg rfl) ?_
    refine WS.call rfl rfl rfl (refWrite_ran M12.here (c := c) (A.mono M12.sub) (by exact hg4 (by assumption))) ?_
    rintro _ h13 ⟨rfl, N14⟩
    have M15 := M12.trans N14
    refine WS.seql (l := (if mayB c then encC c else [])) (m := (if mayB c then encC c else [])) rfl rfl rfl (fun e10 => ?_) (fun e10 => ?_)
    · skip
      refine WS.op rfl rfl (WS.op rfl (op_lds [_, _, _, _, _, _, _, _, _, _, _, _] (M15.at 0 rfl) rfl (Nat.le_of_ble_eq_true rfl) rfl) (WS.op rfl (op_lds [_, _, _, _, _, _, _, _, _, _, _, _] (M15.at 0 rfl) rfl (Nat.le_of_ble_eq_true rfl) rfl) ?_))
      refine WS.call rfl rfl rfl (Oversize_ran M15.here (c := c) (A.mono M15.sub) (by exact hg4 (by assumption))) ?_
      rintro _ h16 ⟨rfl, N17⟩
      have M18 := M15.trans N17
      refine WS.chk rfl (op_lds [_, _, _, _, _, _, _, _, _, _, _, _] (M18.at 0 rfl) rfl (Nat.le_of_ble_eq_true rfl) rfl) rfl (same_agg rfl) ?_
      refine WS.call rfl rfl rfl (refOversize_ran M18.here (c := c) (A.mono M18.sub) (by exact hg4 (by assumption))) ?_
      rintro _ h19 ⟨rfl, N20⟩
      have M21 := M18.trans N20
      cases hb2 : (decide (OverC c))
      · skip
        refine WS.opV (.bool true) rfl rfl rfl (WS.op rfl rfl (WS.op rfl rfl (WS.op rfl rfl (WS.op rfl (op_ld (M21.at 0 rfl) rfl rfl) (WS.op rfl rfl (WS.op rfl (op_ld (M21.at 0 rfl) rfl rfl) ?_))))))
        refine WS.gtrN (a := (c.op).toNat) (b := 7) rfl rfl rfl (fun e24 => ?_) (fun e24 => ?_)
        · skip
          refine WS.call rfl rfl rfl (Asks_ran M21.here (c := c.op)) ?_
          rintro _ h22 ⟨rfl, N23⟩
          have M24 := M21.trans N23
          refine WS.chk rfl (op_ld (M24.at 0 rfl) rfl rfl) rfl (sameV_refl rfl) (WS.op rfl rfl (WS.op rfl rfl (WS.op rfl (op_ld (M24.at 0 rfl) rfl rfl) ?_)))
          refine WS.lssN (a := (c.op).toNat) (b := 12) rfl rfl rfl (fun e28 => ?_) (fun e28 => ?_)
          · skip
            refine WS.op rfl rfl ?_
            cases hb3 : (decide (8 ≤ (c.op).toNat ∧ (c.op).toNat ≤ 11))
            · skip
              refine WS.opV (.bool false) rfl rfl rfl (WS.op rfl rfl (WS.op rfl rfl (WS.offC rfl (WS.op rfl rfl (WS.op rfl rfl (WS.nil [(2, _)] rfl ?_))))))
              refine WC.ret ?_
              refine ⟨[_], (res_tmp rfl res_nil), ?_⟩
              exfalso; first | (have q := of_decide_eq_false (p := 8 ≤ c.op.toNat ∧ c.op.toNat ≤ 11) (by assumption); omega) | (have q := of_decide_eq_true (p := 8 ≤ c.op.toNat ∧ c.op.toNat ≤ 11) (by assumption); omega)
            · skip
              refine WS.opV (.bool true) rfl rfl rfl (WS.op rfl rfl (WS.op rfl rfl ?_))
              refine WS.call rfl rfl rfl (awake_ran M24.here ) ?_
              rintro _ h25 ⟨rfl, N26⟩
              have M27 := M24.trans N26
              refine WS.op rfl rfl (WS.op rfl rfl (WS.nil [(2, _)] rfl ?_))
              refine WC.ret ?_
              refine ⟨[_], (res_tmp rfl res_nil), ?_⟩
              rfl
          · skip
            refine WS.op rfl rfl ?_
            cases hb3 : (decide (8 ≤ (c.op).toNat ∧ (c.op).toNat ≤ 11))
            · skip
              refine WS.opV (.bool true) rfl rfl rfl (WS.op rfl rfl (WS.op rfl rfl ?_))
              refine WS.call rfl rfl rfl (awake_ran M24.here ) ?_
              rintro _ h28 ⟨rfl, N29⟩
              have M30 := M24.trans N29
              refine WS.op rfl rfl (WS.op rfl rfl (WS.nil [(2, _)] rfl ?_))
              refine WC.ret ?_
              refine ⟨[_], (res_tmp rfl res_nil), ?_⟩
              rfl
            · skip
              refine WS.opV (.bool false) rfl rfl rfl (WS.op rfl rfl (WS.op rfl rfl (WS.offC rfl (WS.op rfl rfl (WS.op rfl rfl (WS.nil [(2, _)] rfl ?_))))))
              refine WC.ret ?_
              refine ⟨[_], (res_tmp rfl res_nil), ?_⟩
              exfalso; first | (have q := of_decide_eq_false (p := 8 ≤ c.op.toNat ∧ c.op.toNat ≤ 11) (by assumption); omega) | (have q := of_decide_eq_true (p := 8 ≤ c.op.toNat ∧ c.op.toNat ≤ 11) (by assumption); omega)
        · skip
          refine WS.call rfl rfl rfl (Asks_ran M21.here (c := c.op)) ?_
          rintro _ h31 ⟨rfl, N32⟩
          have M33 := M21.trans N32
          refine WS.chk rfl (op_ld (M33.at 0 rfl) rfl rfl) rfl (sameV_refl rfl) (WS.op rfl rfl (WS.off rfl (WS.off rfl (WS.off rfl (WS.op rfl rfl ?_)))))
          cases hb3 : (decide (8 ≤ (c.op).toNat ∧ (c.op).toNat ≤ 11))
          · skip
            refine WS.opV (.bool true) rfl rfl rfl (WS.op rfl rfl (WS.op rfl rfl ?_))
            refine WS.call rfl rfl rfl (awake_ran M33.here ) ?_
            rintro _ h34 ⟨rfl, N35⟩
            have M36 := M33.trans N35
            refine WS.op rfl rfl (WS.op rfl rfl (WS.nil [(2, _)] rfl ?_))
            refine WC.ret ?_
            refine ⟨[_], (res_tmp rfl res_nil), ?_⟩
            rfl
          · skip
            refine WS.opV (.bool false) rfl rfl rfl (WS.op rfl rfl (WS.op rfl rfl (WS.offC rfl (WS.op rfl rfl (WS.op rfl rfl (WS.nil [(2, _)] rfl ?_))))))
            refine WC.ret ?_
            refine ⟨[_], (res_tmp rfl res_nil), ?_⟩
            exfalso; first | (have q := of_decide_eq_false (p := 8 ≤ c.op.toNat ∧ c.op.toNat ≤ 11) (by assumption); omega) | (have q := of_decide_eq_true (p := 8 ≤ c.op.toNat ∧ c.op.toNat ≤ 11) (by assumption); omega)
      · skip
        refine WS.opV (.bool true) rfl rfl rfl (WS.op rfl rfl (WS.op rfl rfl (WS.op rfl rfl (WS.op rfl (op_ld (M21.at 0 rfl) rfl rfl) (WS.op rfl rfl (WS.op rfl (op_ld (M21.at 0 rfl) rfl rfl) ?_))))))
        refine WS.gtrN (a := (c.op).toNat) (b := 7) rfl rfl rfl (fun e24 => ?_) (fun e24 => ?_)
        · skip
          refine WS.call rfl rfl rfl (Asks_ran M21.here (c := c.op)) ?_
          rintro _ h37 ⟨rfl, N38⟩
          have M39 := M21.trans N38
          refine WS.chk rfl (op_ld (M39.at 0 rfl) rfl rfl) rfl (sameV_refl rfl) (WS.op rfl rfl (WS.op rfl rfl (WS.op rfl (op_ld (M39.at 0 rfl) rfl rfl) ?_)))
          refine WS.lssN (a := (c.op).toNat) (b := 12) rfl rfl rfl (fun e28 => ?_) (fun e28 => ?_)
          · skip
            refine WS.op rfl rfl ?_
            cases hb3 : (decide (8 ≤ (c.op).toNat ∧ (c.op).toNat ≤ 11))
            · skip
              refine WS.opV (.bool false) rfl rfl rfl (WS.op rfl rfl (WS.op rfl rfl (WS.offC rfl (WS.op rfl rfl (WS.op rfl rfl (WS.nil [(2, _)] rfl ?_))))))
              refine WC.ret ?_
              refine ⟨[_], (res_tmp rfl res_nil), ?_⟩
              exfalso; first | (have q := of_decide_eq_false (p := 8 ≤ c.op.toNat ∧ c.op.toNat ≤ 11) (by assumption); omega) | (have q := of_decide_eq_true (p := 8 ≤ c.op.toNat ∧ c.op.toNat ≤ 11) (by assumption); omega)
            · skip
              refine WS.opV (.bool true) rfl rfl rfl (WS.op rfl rfl (WS.op rfl rfl ?_))
              refine WS.call rfl rfl rfl (awake_ran M39.here ) ?_
              rintro _ h40 ⟨rfl, N41⟩
              have M42 := M39.trans N41
              refine WS.op rfl rfl (WS.op rfl rfl (WS.nil [(2, _)] rfl ?_))
              refine WC.ret ?_
              refine ⟨[_], (res_tmp rfl res_nil), ?_⟩
              rfl
          · skip
            refine WS.op rfl rfl ?_
            cases hb3 : (decide (8 ≤ (c.op).toNat ∧ (c.op).toNat ≤ 11))
            · skip
              refine WS.opV (.bool true) rfl rfl rfl (WS.op rfl rfl (WS.op rfl rfl ?_))
              refine WS.call rfl rfl rfl (awake_ran M39.here ) ?_
              rintro _ h43 ⟨rfl, N44⟩
              have M45 := M39.trans N44
              refine WS.op rfl rfl (WS.op rfl rfl (WS.nil [(2, _)] rfl ?_))
              refine WC.ret ?_
              refine ⟨[_], (res_tmp rfl res_nil), ?_⟩
              rfl
            · skip
              refine WS.opV (.bool false) rfl rfl rfl (WS.op rfl rfl (WS.op rfl rfl (WS.offC rfl (WS.op rfl rfl (WS.op rfl rfl (WS.nil [(2, _)] rfl ?_))))))
              refine WC.ret ?_
              refine ⟨[_], (res_tmp rfl res_nil), ?_⟩
              exfalso; first | (have q := of_decide_eq_false (p := 8 ≤ c.op.toNat ∧ c.op.toNat ≤ 11) (by assumption); omega) | (have q := of_decide_eq_true (p := 8 ≤ c.op.toNat ∧ c.op.toNat ≤ 11) (by assumption); omega)
        · skip
          refine WS.call rfl rfl rfl (Asks_ran M21.here (c := c.op)) ?_
          rintro _ h46 ⟨rfl, N47⟩
          have M48 := M21.trans N47
          refine WS.chk rfl (op_ld (M48.at 0 rfl) rfl rfl) rfl (sameV_refl rfl) (WS.op rfl rfl (WS.off rfl (WS.off rfl (WS.off rfl (WS.op rfl rfl ?_)))))
          cases hb3 : (decide (8 ≤ (c.op).toNat ∧ (c.op).toNat ≤ 11))
          · skip
            refine WS.opV (.bool true) rfl rfl rfl (WS.op rfl rfl (WS.op rfl rfl ?_))
            refine WS.call rfl rfl rfl (awake_ran M48.here ) ?_
            rintro _ h49 ⟨rfl, N50⟩
            have M51 := M48.trans N50
            refine WS.op rfl rfl (WS.op rfl rfl (WS.nil [(2, _)] rfl ?_))
            refine WC.ret ?_
            refine ⟨[_], (res_tmp rfl res_nil), ?_⟩
            rfl
          · skip
            refine WS.opV (.bool false) rfl rfl rfl (WS.op rfl rfl (WS.op rfl rfl (WS.offC rfl (WS.op rfl rfl (WS.op rfl rfl (WS.nil [(2, _)] rfl ?_))))))
            refine WC.ret ?_
            refine ⟨[_], (res_tmp rfl res_nil), ?_⟩
            exfalso; first | (have q := of_decide_eq_false (p := 8 ≤ c.op.toNat ∧ c.op.toNat ≤ 11) (by assumption); omega) | (have q := of_decide_eq_true (p := 8 ≤ c.op.toNat ∧ c.op.toNat ≤ 11) (by assumption); omega)
    · skip
      exact absurd rfl e10
  · skip
    refine WC.condT rfl ?_
    refine WC.seq ?_
    refine WC.run ?_
    refine WS.call rfl rfl rfl (awake_ran M6.here ) ?_
    rintro _ h52 ⟨rfl, N53⟩
    have M54 := M6.trans N53
    refine WS.op rfl rfl (WS.nil [(2, _)] rfl ?_)
    refine WC.ret ?_
    refine ⟨[_], (res_tmp rfl res_nil), ?_⟩
    rfl
end Go.Proofs.Ytncpdahappmhkaa.Wt
