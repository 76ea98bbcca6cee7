/- The abstract machine's operations are the model's: the fourth part. -/
import Derived.Test.YtncpdahappmhkaaAmF
namespace Go.Proofs.Ytncpdahappmhkaa.Am
open Go
set_option linter.unusedVariables false
set_option linter.unusedSimpArgs false
variable {P : Program} {base : Nat} {r : Rho} {h h2 : H} {w : World} {e : Env} {a : Act} {nm : Option Nat} {v : Value}

theorem VR.slice_inv {r : Rho} {p : Option Addr} {n c : Nat} {v' : Value} (h : VR r (.slice p n c) v') : ∃ p' c', v' = .slice p' n c' ∧ n ≤ c' ∧ c / 2 ≤ c' ∧ (p = none → p' = none ∧ n = 0 ∧ c = 0 ∧ c' = 0) ∧
    (∀ q, p = some q → ∃ q', p' = some q' ∧ (AR r q q' ∨ c' = 0) ∧ (c % 2 = 1 → c' = c / 2) ∧ (c % 2 = 0 → ∃ L, r q.block = some L ∧ q.off + c' * L.es ≤ L.lim)) := by
  cases h with
  | sl0 => exact ⟨none, 0, rfl, Nat.le_refl _, by simp, fun _ => ⟨rfl, rfl, rfl, rfl⟩, fun q hq => by cases hq⟩
  | sl h1 h2 h3 h4 h5 => exact ⟨_, _, rfl, h2, h3, fun hq => (by cases hq), fun q hq => by cases hq; exact ⟨_, rfl, h1, h4, h5⟩⟩
theorem VR.ptr_inv {r : Rho} {p : Addr} {v' : Value} (h : VR r (.pointer (some p)) v') : ∃ L, p.spot = none ∧ r p.block = some L ∧ v' = .pointer (some ⟨L.b, L.o + p.off, none⟩) := by
  cases h with
  | ptr q => obtain ⟨h1, L, h2, rfl⟩ := q; exact ⟨L, h1, h2, rfl⟩
theorem VR.extract {r : Rho} {x y : Array Value} (h : VL r x.toList y.toList) (i j : Nat) : VR r (.agg (x.extract i j)) (.agg (y.extract i j)) := by
  have hs : x.size = y.size := by simpa using h.1
  refine .agg (by simp [hs]) fun k v v' a b => ?_
  rw [Array.getElem?_extract] at a b
  rw [hs] at a
  split at a
  · rename_i q; rw [if_pos q] at b; exact h.2 _ v v' (by simpa using a) (by simpa using b)
  · cases a
theorem add_none (b o n : Nat) : (⟨b, o, none⟩ : Addr).add n = ⟨b, o + n, none⟩ := by
  unfold Addr.add; split
  · rename_i h0; subst h0; rfl
  · rfl

section ops

theorem s_eqq1 (R : Rel base r h w) (he : EnvR r e a.tmps) (hnm : ∀ n, nm = some n → n < h.next ∧ r n = none) {neg : Bool} {k : Nat} {op : BinOp} {t u : TypeId} {x y : Operand} {o : Oper} (ho : o.op = .binOp op t x y u) (hop : (op = .eql ∧ neg = false) ∨ (op = .neq ∧ neg = true)) (ht : k = 0 ∧ P.underlying t = some .bool)
    (E : opE (.eqq neg (.one k) x y) e h nm = some (v, h2)) : Stp base nm r h w v h2 ((execOp a.eval o).run P w) := by
  simp only [opE] at E
  split at E
  · rename_i p hp
    split at E
    · rename_i q hq
      split at E
      · rename_i b hb; cases E
        obtain ⟨rfl, ht⟩ := ht
        have j1 := ev_sound he hp
        have j2 := ev_sound he hq
        obtain ⟨x1, x2, rfl, rfl, rfl⟩ : ∃ x1 x2, p = .bool x1 ∧ q = .bool x2 ∧ b = (x1 == x2) := by
          simp only [eqV] at hb
          cases p <;> first | (simp [eq1] at hb; done) | skip
          cases q <;> first | (simp [eq1] at hb; done) | skip
          simp only [eq1] at hb; cases hb; exact ⟨_, _, rfl, rfl, rfl⟩
        have k1 := VR.bool_inv j1
        have k2 := VR.bool_inv j2
        refine Stp.pure' R (.bool _) ?_
        rcases hop with ⟨rfl, rfl⟩ | ⟨rfl, rfl⟩
        · simp [execOp, ho, k1, k2, eqGuard_at_bool, run_eql_bool _ t _ _ ht]
        · simp [execOp, ho, k1, k2, eqGuard_at_bool, run_neq_bool _ t _ _ ht]
      · cases E
    · cases E
  · cases E

theorem s_eqqP (R : Rel base r h w) (he : EnvR r e a.tmps) (hnm : ∀ n, nm = some n → n < h.next ∧ r n = none) {neg : Bool} {op : BinOp} {t u el : TypeId} {x y : Operand} {o : Oper} (ho : o.op = .binOp op t x y u) (hop : (op = .eql ∧ neg = false) ∨ (op = .neq ∧ neg = true))
    (ht : P.underlying t = some (.pointer el)) (E : opE (.eqq neg .nilP x y) e h nm = some (v, h2)) : Stp base nm r h w v h2 ((execOp a.eval o).run P w) := by
  simp only [opE] at E
  split at E
  · rename_i p hp
    split at E
    · rename_i q hq
      split at E
      · rename_i b hb; cases E
        have k1 := ev_sound he hp
        have k2 := ev_sound he hq
        refine Stp.pure' R (.bool _) ?_
        obtain ⟨p1, rfl, rfl, rfl⟩ : ∃ p1, p = .pointer p1 ∧ q = .pointer none ∧ b = p1.isNone := by
          simp only [eqV] at hb; unfold eqNP at hb
          split at hb
          · cases hb; exact ⟨_, rfl, rfl, rfl⟩
          · cases hb
        have hpt : P.underlying t = some (.pointer (P.pointee t)) := by simp [Program.pointee, ht]
        obtain ⟨p2, e1, e2⟩ : ∃ p2, a.eval x = .pointer p2 ∧ p2.isNone = p1.isNone := by
          generalize a.eval x = z at k1; cases k1 <;> exact ⟨_, rfl, rfl⟩
        have e3 : a.eval y = .pointer none := by generalize a.eval y = z at k2; cases k2; rfl
        rcases hop with ⟨rfl, rfl⟩ | ⟨rfl, rfl⟩
        · simp [execOp, ho, e1, e3, eqGuard_at_pointer, run_eql_pointer_nil w t p2 hpt, e2]
        · simp [execOp, ho, e1, e3, eqGuard_at_pointer, run_neq_pointer_nil w t p2 hpt, e2]
      · cases E
    · cases E
  · cases E
theorem s_eqqV (R : Rel base r h w) (he : EnvR r e a.tmps) (hnm : ∀ n, nm = some n → n < h.next ∧ r n = none) {neg : Bool} {op : BinOp} {t u el : TypeId} {x y : Operand} {o : Oper} (ho : o.op = .binOp op t x y u) (hop : (op = .eql ∧ neg = false) ∨ (op = .neq ∧ neg = true))
    (ht : P.underlying t = some (.slice el)) (E : opE (.eqq neg .nilV x y) e h nm = some (v, h2)) : Stp base nm r h w v h2 ((execOp a.eval o).run P w) := by
  simp only [opE] at E
  split at E
  · rename_i p hp
    split at E
    · rename_i q hq
      split at E
      · rename_i b hb; cases E
        have k1 := ev_sound he hp
        have k2 := ev_sound he hq
        refine Stp.pure' R (.bool _) ?_
        obtain ⟨p1, n1, c1, n2, c2, rfl, rfl, rfl⟩ : ∃ p1 n1 c1 n2 c2, p = .slice p1 n1 c1 ∧ q = .slice none n2 c2 ∧ b = p1.isNone := by
          simp only [eqV] at hb; unfold eqNV at hb
          split at hb
          · cases hb; exact ⟨_, _, _, _, _, rfl, rfl, rfl⟩
          · cases hb
        obtain ⟨p2, c3, e1, e2⟩ : ∃ p2 c3, a.eval x = .slice p2 n1 c3 ∧ p2.isNone = p1.isNone := by
          generalize a.eval x = z at k1; cases k1 <;> exact ⟨_, _, rfl, rfl⟩
        obtain ⟨c4, e3⟩ : ∃ c4, a.eval y = .slice none n2 c4 := by generalize a.eval y = z at k2; cases k2; exact ⟨_, rfl⟩
        have hq := fun (w : World) => Go.Lib.run_equalIn_slice_nil w 9999 t el p2 n1 c3 n2 c4 ht
        rcases hop with ⟨rfl, rfl⟩ | ⟨rfl, rfl⟩
        · simp [execOp, ho, e1, e3, eqGuard_at_slice, Go.Lib.run_eql_slice_nil w t el p2 n1 c3 n2 c4 ht, e2]
        · have e5 : (binOp .neq t (.slice p2 n1 c3) (.slice none n2 c4)).run P w = .ok (.bool (!p2.isNone)) w := by
            simp only [binOp]; simp [Op.equal, Op.maxDepth, hq]
          simp [execOp, ho, e1, e3, eqGuard_at_slice, e5, e2]
      · cases E
    · cases E
  · cases E
theorem s_eqqA (R : Rel base r h w) (he : EnvR r e a.tmps) (hnm : ∀ n, nm = some n → n < h.next ∧ r n = none) {neg : Bool} {l : List (Nat × Nat)} {op : BinOp} {t u : TypeId} {x y : Operand} {o : Oper} (ho : o.op = .binOp op t x y u) (hop : (op = .eql ∧ neg = false) ∨ (op = .neq ∧ neg = true))
    (hA : isAggB P t = true) (hg : P.eqGuardType P.depth t = false) (hl : eqOffs P 20 t 0 = some l)
    (E : opE (.eqq neg (.agg l) x y) e h nm = some (v, h2)) : Stp base nm r h w v h2 ((execOp a.eval o).run P w) := by
  simp only [opE] at E
  split at E
  · rename_i p hp
    split at E
    · rename_i q hq
      split at E
      · rename_i b hb; cases E
        have k1 := ev_sound he hp
        have k2 := ev_sound he hq
        obtain ⟨X, Y, rfl, rfl⟩ : ∃ X Y, p = .agg X ∧ q = .agg Y := by
          simp only [eqV] at hb
          cases p <;> first | (simp [eqG] at hb; done) | skip
          cases q <;> first | (simp [eqG] at hb; done) | skip
          exact ⟨_, _, rfl, rfl⟩
        simp only [eqV, eqG] at hb
        obtain ⟨X', e1, j1⟩ := k1.agg_inv
        obtain ⟨Y', e2, j2⟩ := k2.agg_inv
        have hb' := eqL_rel j1 j2 hb
        obtain ⟨sz, hsz, kk⟩ := eqB_succ (eqT P 19) t 0 l hA hl X' Y' b hb' 10000 (by omega)
        have run := kk X' Y' (fun i _ => by simp) (fun i _ => by simp)
        refine Stp.pure' R (.bool _) ?_
        rcases hop with ⟨rfl, rfl⟩ | ⟨rfl, rfl⟩
        · simp [execOp, ho, e1, e2, run_eqGuard_agg w .eql t x y X' Y' hg, run_eql_struct, run]
        · simp [execOp, ho, e1, e2, run_eqGuard_agg w .neq t x y X' Y' hg, run_neq_struct, run]
      · cases E
    · cases E
  · cases E

theorem s_lenV (R : Rel base r h w) (he : EnvR r e a.tmps) (hnm : ∀ n, nm = some n → n < h.next ∧ r n = none) {t el : TypeId} {x : Operand} {c : Call} {o : Oper} (ho : o.op = .call c) (hc : c.callee = .builtin .len) (hx : c.args.toList = [x]) (hts : c.argTypes.toList = [t]) (ht : P.underlying t = some (.slice el))
    (E : opE (.lenV x) e h nm = some (v, h2)) : Stp base nm r h w v h2 ((execOp a.eval o).run P w) := by
  simp only [opE] at E
  have hx : c.args = #[x] := by rw [← hx]
  have hts : c.argTypes = #[t] := by rw [← hts]
  split at E
  · rename_i p n cc hp; cases E
    obtain ⟨p', c', k, _⟩ := (ev_sound he hp).slice_inv
    refine Stp.pure' R (.int ..) ?_
    simp [execOp, ho, hc, hx, hts, resolve, invoke, builtin, Builtin.len_, run_underlying ht, k, goInt]
  · cases E
theorem s_lenS (R : Rel base r h w) (he : EnvR r e a.tmps) (hnm : ∀ n, nm = some n → n < h.next ∧ r n = none) {t : TypeId} {x : Operand} {c : Call} {o : Oper} (ho : o.op = .call c) (hc : c.callee = .builtin .len) (hx : c.args.toList = [x]) (hts : c.argTypes.toList = [t]) (ht : P.underlying t = some .string)
    (E : opE (.lenS x) e h nm = some (v, h2)) : Stp base nm r h w v h2 ((execOp a.eval o).run P w) := by
  simp only [opE] at E
  have hx : c.args = #[x] := by rw [← hx]
  have hts : c.argTypes = #[t] := by rw [← hts]
  split at E
  · rename_i s hp; cases E
    have k := VR.string_inv (ev_sound he hp)
    refine Stp.pure' R (.int ..) ?_
    simp [execOp, ho, hc, hx, hts, resolve, invoke, builtin, Builtin.len_, run_underlying ht, k, goInt]
  · cases E
theorem s_lenC (R : Rel base r h w) (he : EnvR r e a.tmps) (hnm : ∀ n, nm = some n → n < h.next ∧ r n = none) {t el : TypeId} {n : Nat} {x : Operand} {c : Call} {o : Oper} (ho : o.op = .call c) (hc : c.callee = .builtin .len) (hx : c.args.toList = [x]) (hts : c.argTypes.toList = [t]) (ht : P.underlying t = some (.array n el))
    (E : opE (.lenC n) e h nm = some (v, h2)) : Stp base nm r h w v h2 ((execOp a.eval o).run P w) := by
  simp only [opE] at E; cases E
  have hx : c.args = #[x] := by rw [← hx]
  have hts : c.argTypes = #[t] := by rw [← hts]
  refine Stp.pure' R (.int ..) ?_
  simp [execOp, ho, hc, hx, hts, resolve, invoke, builtin, Builtin.len_, run_underlying ht, goInt]
theorem s_mm (R : Rel base r h w) (he : EnvR r e a.tmps) (hnm : ∀ n, nm = some n → n < h.next ∧ r n = none) {isMin : Bool} {x y : Operand} {c : Call} {o : Oper} (ho : o.op = .call c) (hc : c.callee = .builtin (if isMin then .min else .max)) (hx : c.args.toList = [x, y])
    (E : opE (.mm isMin x y) e h nm = some (v, h2)) : Stp base nm r h w v h2 ((execOp a.eval o).run P w) := by
  simp only [opE] at E
  have hx : c.args = #[x, y] := by rw [← hx]
  split at E
  · rename_i k p hp
    split at E
    · rename_i k2 q hq; cases E
      have j1 := VR.int_inv (ev_sound he hp)
      have j2 := VR.int_inv (ev_sound he hq)
      refine Stp.pure' R (.int ..) ?_
      cases isMin
      · simp [execOp, ho, hc, hx, resolve, invoke, builtin, j1, j2, run_max_int2]
      · simp [execOp, ho, hc, hx, resolve, invoke, builtin, j1, j2, run_min_int2]
    · cases E
  · cases E
theorem s_ixS (R : Rel base r h w) (he : EnvR r e a.tmps) (hnm : ∀ n, nm = some n → n < h.next ∧ r n = none) {t : TypeId} {x i : Operand} {o : Oper} (ho : o.op = .index t x i) (ht : P.underlying t = some .string)
    (E : opE (.ixS x i) e h nm = some (v, h2)) : Stp base nm r h w v h2 ((execOp a.eval o).run P w) := by
  simp only [opE] at E
  split at E
  · rename_i s hp
    split at E
    · rename_i k q hq
      split at E
      · rename_i h0
        split at E
        · rename_i b hb; cases E
          have j1 := VR.string_inv (ev_sound he hp)
          have j2 := VR.int_inv (ev_sound he hq)
          refine Stp.pure' R (.int ..) ?_
          simp [execOp, ho, j1, j2, Instr.index, asIntOf, run_underlying ht, h0, hb]
        · cases E
      · cases E
    · cases E
  · cases E
theorem s_ixA (R : Rel base r h w) (he : EnvR r e a.tmps) (hnm : ∀ n, nm = some n → n < h.next ∧ r n = none) {t el : TypeId} {n s : Nat} {ag : Bool} {x i : Operand} {o : Oper} (ho : o.op = .index t x i) (ht : P.underlying t = some (.array n el)) (hs : szOf P el = some s) (hA : isAggB P el = ag) {d : TypeDesc} (hd : P.underlying el = some d)
    (E : opE (.ixA n s ag x i) e h nm = some (v, h2)) : Stp base nm r h w v h2 ((execOp a.eval o).run P w) := by
  simp only [opE] at E
  obtain ⟨ii, hi, rfl⟩ := info_of_szOf hs
  split at E
  · rename_i cs hp
    split at E
    · rename_i k q hq
      split at E
      · rename_i h0
        obtain ⟨cs', e1, j1⟩ := (ev_sound he hp).agg_inv
        have j2 := VR.int_inv (ev_sound he hq)
        cases ag
        · simp only [Bool.false_eq_true, if_false] at E
          split at E
          · rename_i u hu; cases E
            obtain ⟨u', q1, q2⟩ := j1.get (i := q.toNat * ii.size) (v := v) (by simpa using hu)
            have e3 : cs'[q.toNat * ii.size]? = some u' := by simpa using q1
            refine Stp.pure' R q2 ?_
            simp [execOp, ho, e1, j2, Instr.index, asIntOf, run_underlying ht, h0, run_sizeOf' hi, run_part_one hd hA e3]
          · cases E
        · simp only [if_true] at E; cases E
          have e4 : VR r (.agg (cs.extract (q.toNat * ii.size) (q.toNat * ii.size + ii.size))) (.agg (cs'.extract (q.toNat * ii.size) (q.toNat * ii.size + ii.size))) := by
            exact VR.extract j1 _ _
          refine Stp.pure' R e4 ?_
          simp [execOp, ho, e1, j2, Instr.index, asIntOf, run_underlying ht, h0, run_sizeOf' hi, run_part_agg hA hi]
      · cases E
    · cases E
  · cases E
theorem s_fd (R : Rel base r h w) (he : EnvR r e a.tmps) (hnm : ∀ n, nm = some n → n < h.next ∧ r n = none) {t : TypeId} {fs : Array Field} {f : Field} {k : Nat} {n : Option Nat} {x : Operand} {o : Oper} (ho : o.op = .field t x k) (ht : P.underlying t = some (.struct fs)) (hf : fs[k]? = some f) {m : Nat} (hs : szOf P f.type = some m) {d : TypeDesc} (hd : P.underlying f.type = some d)
    (hn : (n = none ∧ isAggB P f.type = false) ∨ (n = some m ∧ isAggB P f.type = true)) (E : opE (.fd f.offset n x) e h nm = some (v, h2)) : Stp base nm r h w v h2 ((execOp a.eval o).run P w) := by
  simp only [opE] at E
  obtain ⟨ii, hi, rfl⟩ := info_of_szOf hs
  split at E
  · rename_i cs hp
    obtain ⟨cs', e1, j1⟩ := (ev_sound he hp).agg_inv
    rcases hn with ⟨rfl, hA⟩ | ⟨rfl, hA⟩
    · simp only at E
      split at E
      · rename_i u hu; cases E
        obtain ⟨u', q1, q2⟩ := j1.get (i := f.offset) (v := v) (by simpa using hu)
        have e3 : cs'[f.offset]? = some u' := by simpa using q1
        refine Stp.pure' R q2 ?_
        simp [execOp, ho, e1, Instr.field, run_underlying ht, hf, asAgg, run_part_one hd hA e3]
      · cases E
    · simp only at E; cases E
      have e4 : VR r (.agg (cs.extract f.offset (f.offset + ii.size))) (.agg (cs'.extract f.offset (f.offset + ii.size))) := VR.extract j1 _ _
      refine Stp.pure' R e4 ?_
      simp [execOp, ho, e1, Instr.field, run_underlying ht, hf, asAgg, run_part_agg hA hi]
  · cases E
theorem s_iaV (R : Rel base r h w) (he : EnvR r e a.tmps) (hnm : ∀ n, nm = some n → n < h.next ∧ r n = none) {t el : TypeId} {s : Nat} {x i : Operand} {o : Oper} (ho : o.op = .indexAddr t x i) (ht : P.underlying t = some (.slice el)) (hs : szOf P el = some s)
    (E : opE (.iaV s x i) e h nm = some (v, h2)) : Stp base nm r h w v h2 ((execOp a.eval o).run P w) := by
  simp only [opE] at E
  obtain ⟨ii, hi, rfl⟩ := info_of_szOf hs
  split at E
  · rename_i p n c hp
    split at E
    · rename_i k q hq
      split at E
      · rename_i h0; cases E
        obtain ⟨p', c', e1, g1, g2, _, g4⟩ := (ev_sound he hp).slice_inv
        have j2 := VR.int_inv (ev_sound he hq)
        obtain ⟨p'', rfl, g5, _⟩ := g4 p rfl
        obtain ⟨m1, L, m2, rfl⟩ := g5.resolve_right (by omega)
        refine Stp.pure' R (v' := .pointer (some ⟨L.b, L.o + (p.off + q.toNat * ii.size), none⟩)) (.ptr ⟨rfl, L, m2, rfl⟩) ?_
        simp [execOp, ho, e1, j2, Instr.indexAt, asIntOf, run_underlying ht, h0, run_sizeOf' hi, add_none, Nat.add_assoc]
      · cases E
    · cases E
  · cases E
theorem s_iaA (R : Rel base r h w) (he : EnvR r e a.tmps) (hnm : ∀ n, nm = some n → n < h.next ∧ r n = none) {t el : TypeId} {n s : Nat} {x i : Operand} {o : Oper} (ho : o.op = .indexAddr t x i) (ht : P.underlying t = some (.array n el)) (hs : szOf P el = some s)
    (E : opE (.iaA n s x i) e h nm = some (v, h2)) : Stp base nm r h w v h2 ((execOp a.eval o).run P w) := by
  simp only [opE] at E
  obtain ⟨ii, hi, rfl⟩ := info_of_szOf hs
  split at E
  · rename_i p hp
    split at E
    · rename_i k q hq
      split at E
      · rename_i h0; cases E
        obtain ⟨L, m1, m2, e1⟩ := (ev_sound he hp).ptr_inv
        have j2 := VR.int_inv (ev_sound he hq)
        refine Stp.pure' R (v' := .pointer (some ⟨L.b, L.o + (p.off + q.toNat * ii.size), none⟩)) (.ptr ⟨rfl, L, m2, rfl⟩) ?_
        simp [execOp, ho, e1, j2, Instr.indexAt, asIntOf, run_underlying ht, h0, run_sizeOf' hi, add_none, Nat.add_assoc, Instr.sureAddr]
      · cases E
    · cases E
  · cases E
end ops
end Go.Proofs.Ytncpdahappmhkaa.Am
