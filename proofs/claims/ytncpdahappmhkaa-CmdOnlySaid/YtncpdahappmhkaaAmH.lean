/- The abstract machine's operations are the model's: texts and slices. -/
import Derived.Test.YtncpdahappmhkaaAmG
namespace Go.Proofs.Ytncpdahappmhkaa.Am
open Go
set_option linter.unusedVariables false
set_option linter.unusedSimpArgs false
variable {P : Program} {base : Nat} {r : Rho} {h h2 : H} {w : World} {e : Env} {a : Act} {nm : Option Nat} {v : Value}

/-- A bound of a cut, as the model has it. -/
theorem bnd_sound (he : EnvR r e a.tmps) {x : Option Operand} {b : Option Nat} (E : bnd e x = some b) : (x = none ∧ b = none) ∨ ∃ (k : IntKind) (i : Int) (y : Operand), x = some y ∧ b = some i.toNat ∧ 0 ≤ i ∧ a.eval y = .int k i := by
  cases x with
  | none => simp only [bnd] at E; cases E; exact .inl ⟨rfl, rfl⟩
  | some y =>
    simp only [bnd] at E
    split at E
    · rename_i k i hi
      split at E
      · rename_i h0; cases E; exact .inr ⟨k, i, y, rfl, rfl, h0, VR.int_inv (ev_sound he hi)⟩
      · cases E
    · cases E


theorem run_bound (k : IntKind) (i : Int) (y : Nat) (code : BoundsCode) (h0 : 0 ≤ i) (h1 : i.toNat ≤ y) (w : World) : (Instr.sliceBound (.int k i) y code).run P w = .ok i.toNat w := by
  have : i ≤ y := by omega
  simp [Instr.sliceBound, asIntOf, h0, this]

/-- The bounds of a cut in the model: of something of 'n' elements with room for 'cap'. -/
theorem run_bounds (he : EnvR r e a.tmps) {sl : Bool} {n cap : Nat} {lo hi mx : Option Operand} {l hh m : Option Nat} (h1 : bnd e lo = some l) (h2 : bnd e hi = some hh) (h3 : bnd e mx = some m)
    (q1 : l.getD 0 ≤ hh.getD n) (q2 : hh.getD n ≤ m.getD cap) (q3 : m.getD cap ≤ cap) (q4 : m.isSome = true → hh.isSome = true) (w : World) :
    (Instr.sliceBounds sl n cap (lo.map a.eval) (hi.map a.eval) (mx.map a.eval)).run P w = .ok (l.getD 0, hh.getD n, m.getD cap) w := by
  unfold Instr.sliceBounds
  rcases bnd_sound he h1 with ⟨rfl, rfl⟩ | ⟨k1, i1, y1, rfl, rfl, p1, e1⟩ <;> rcases bnd_sound he h2 with ⟨rfl, rfl⟩ | ⟨k2, i2, y2, rfl, rfl, p2, e2⟩ <;> rcases bnd_sound he h3 with ⟨rfl, rfl⟩ | ⟨k3, i3, y3, rfl, rfl, p3, e3⟩
  all_goals simp only [Option.getD_some, Option.getD_none] at q1 q2 q3
  · simp
  · simp at q4
  · simp [e2, run_bound k2 i2 cap _ p2 q2]
  · simp [e2, e3, run_bound k3 i3 cap _ p3 q3, run_bound k2 i2 _ _ p2 q2]
  · simp [e1, run_bound k1 i1 n _ p1 q1]
  · simp at q4
  · simp [e1, e2, run_bound k2 i2 cap _ p2 q2, run_bound k1 i1 _ _ p1 q1]
  · simp [e1, e2, e3, run_bound k3 i3 cap _ p3 q3, run_bound k2 i2 _ _ p2 q2, run_bound k1 i1 _ _ p1 q1]

theorem bytesL_run : ∀ {vs : List Value} {s u : ByteArray}, bytesL vs s = some u → ∃ ns : List Int, vs = ns.map (Value.int .u8) ∧ u = ns.foldl (fun r n => r.push (UInt8.ofNat n.toNat)) s := by
  intro vs
  induction vs with
  | nil => intro s u h; simp only [bytesL] at h; cases h; exact ⟨[], rfl, rfl⟩
  | cons v vs ih =>
    intro s u h
    cases v with
    | int k n =>
      cases k <;> first | (simp [bytesL] at h; done) | skip
      simp only [bytesL] at h
      obtain ⟨ns, g1, g2⟩ := ih h
      exact ⟨n :: ns, by simp [g1], by simpa using g2⟩
    | _ => simp [bytesL] at h
theorem Rel.refreeze {w1 w2 : World} (R : Rel base r h w1) {b0 : Nat} {c : Array Value} {t : TypeId} {fz fz2 : Nat × Nat} (h1 : w1.heap[b0]? = some (.cells c t fz)) (h2 : w2.heap[b0]? = some (.cells c t fz2))
    (ho : ∀ b, b ≠ b0 → w2.heap[b]? = w1.heap[b]?) (hs : w2.heap.size = w1.heap.size) (hf : ∀ k, k < c.size → ¬ (fz2.1 ≤ k ∧ k < fz2.2)) : Rel base r h w2 := by
  refine ⟨fun n B e => ?_, R.inj, R.new, by rw [hs]; exact R.size, R.ro⟩
  obtain ⟨L, c', t', fz', g1, g2, g3, g4, g5, g6, g7⟩ := R.cells n B e
  by_cases hb : L.b = b0
  · rw [hb, h1] at g2; cases g2
    exact ⟨L, c, t, fz2, g1, by rw [hb]; exact h2, g3, g4, g5, fun q => ⟨(g6 q).1, fun k _ k2 => hf k (by omega)⟩, g7⟩
  · exact ⟨L, c', t', fz', g1, by rw [ho _ hb]; exact g2, g3, g4, g5, g6, g7⟩

/-- The source of an append or a copy. -/
theorem src_sound (R : Rel base r h w) {yv y' : Value} (k : VR r yv y') {n m es : Nat} (hn : srcLen yv = some n) (hm : m ≤ n) {src : List Value} (hs : srcCells h es m yv = some src) :
    ∃ src', (∀ w, (Builtin.lenOf y').run P w = .ok n w) ∧ (Builtin.firstCells es m y').run P w = .ok src'.toArray w ∧ (Builtin.firstCells es m y').run P w.drew = .ok src'.toArray w.drew ∧ VL r src src' ∧ src.length = m * es := by
  unfold srcLen at hn
  split at hn
  · rename_i p n' c; cases hn
    obtain ⟨p', c', rfl, g1, g2, g3, g4⟩ := k.slice_inv
    unfold srcCells at hs
    split at hs
    · rename_i q _ _ heq; cases heq
      obtain ⟨q', rfl, g5, _⟩ := g4 q rfl
      have hz : m * es = 0 ∨ AR r q q' := by
        rcases g5 with g5 | g5
        · exact .inr g5
        · left
          have : m = 0 := by omega
          rw [this, Nat.zero_mul]
      obtain ⟨vs', k1, k2, k3, k4⟩ := lds_run (P := P) R hz hs
      exact ⟨vs', fun w => by simp [Builtin.lenOf], by simpa [Builtin.firstCells] using k1 w rfl, by simpa [Builtin.firstCells] using k1 w.drew rfl, k2, k3⟩
    · rename_i heq; cases heq
      obtain ⟨rfl, _, _, _⟩ := g3 rfl
      split at hs
      · rename_i h0; cases hs; subst h0
        exact ⟨[], fun w => by simp [Builtin.lenOf], by simp [Builtin.firstCells], by simp [Builtin.firstCells], VL.nil r, by simp⟩
      · cases hs
    · rename_i heq; cases heq
    · cases hs
  · rename_i s; cases hn
    obtain rfl := VR.string_inv k
    simp only [srcCells] at hs
    split at hs
    · rename_i h1; cases hs; subst h1
      refine ⟨((s.extract 0 m).data.map fun b => Value.int .u8 b.toNat).toList, fun w => by simp [Builtin.lenOf], by simp only [Builtin.firstCells, Array.toArray_toList]; rfl, by simp only [Builtin.firstCells, Array.toArray_toList]; rfl, ⟨rfl, fun i v v' a b => ?_⟩, ?_⟩
      · rw [a] at b; cases b
        have := List.mem_of_getElem? a
        simp only [Array.toList_map, List.mem_map] at this
        obtain ⟨x, _, rfl⟩ := this; exact .int ..
      · simp; omega
    · cases hs
  · cases hn

section ops

theorem s_slS (R : Rel base r h w) (he : EnvR r e a.tmps) (hnm : ∀ n, nm = some n → n < h.next ∧ r n = none) {t : TypeId} {x : Operand} {lo hi : Option Operand} {o : Oper} (ho : o.op = .slice t x lo hi none) (ht : P.underlying t = some .string)
    (E : opE (.slS x lo hi) e h nm = some (v, h2)) : Stp base nm r h w v h2 ((execOp a.eval o).run P w) := by
  simp only [opE] at E
  split at E
  · rename_i s hs
    split at E
    · rename_i l hh hl hhh
      split at E
      · rename_i hc; cases E
        have k := VR.string_inv (ev_sound he hs)
        refine Stp.pure' R (.string _) ?_
        have := run_bounds (P := P) he (sl := false) (n := s.size) (cap := s.size) (mx := none) (m := none) hl hhh rfl hc.1 hc.2 (Nat.le_refl _) (fun q => by cases q) w
        simp only [Option.map_none] at this
        simp [execOp, ho, Instr.sliceAt, Instr.slice, run_underlying ht, k, this]
      · cases E
    · cases E
  · cases E

theorem s_slV (R : Rel base r h w) (he : EnvR r e a.tmps) (hnm : ∀ n, nm = some n → n < h.next ∧ r n = none) {t el : TypeId} {s : Nat} {x : Operand} {lo hi mx : Option Operand} {o : Oper} (ho : o.op = .slice t x lo hi mx) (ht : P.underlying t = some (.slice el)) (hs : szOf P el = some s)
    (E : opE (.slV s x lo hi mx) e h nm = some (v, h2)) : Stp base nm r h w v h2 ((execOp a.eval o).run P w) := by
  simp only [opE] at E
  obtain ⟨ii, hi', rfl⟩ := info_of_szOf hs
  split at E
  · rename_i p n c hp
    split at E
    · rename_i l hh m hl hhh hm
      split at E
      · rename_i hc
        obtain ⟨p', c', e1, g1, g2, g3, g4⟩ := (ev_sound he hp).slice_inv
        obtain ⟨c1, c2, c3, c4⟩ := hc
        have hb := run_bounds (P := P) he (sl := true) (n := n) (cap := c') (mx := mx) (m := m) hl hhh hm c1 (by
          cases m with
          | none => simp only [Option.getD_none] at c2 ⊢; omega
          | some m => exact c2) (by
          cases m with
          | none => simp
          | some m => simp only [Option.getD_some] at c3 ⊢; omega) c4 w
        have c2' : hh.getD n ≤ m.getD c' := by
          cases m with
          | none => simp only [Option.getD_none] at c2 ⊢; omega
          | some m => exact c2
        have c3' : m.getD c' ≤ c' := by
          cases m with
          | none => simp
          | some m => simp only [Option.getD_some] at c3 ⊢; omega
        have hm' : m.getD (c / 2) ≤ m.getD c' := by cases m <;> simp [g2]
        have run : (execOp a.eval o).run P w = .ok (.value (.slice (if m.getD c' = l.getD 0 then p' else p'.map (·.add (l.getD 0 * ii.size))) (hh.getD n - l.getD 0) (m.getD c' - l.getD 0))) w := by
          simp [execOp, ho, Instr.sliceAt, Instr.slice, run_underlying ht, e1, hb, run_sizeOf' hi']
        split at E
        · split at E
          · rename_i hz; cases E
            obtain ⟨z1, z2, z3, z4, z5⟩ := hz
            obtain ⟨rfl, _, _, rfl⟩ := g3 rfl
            refine Stp.pure' R .sl0 ?_
            rw [run, z1, z2]
            have : m.getD 0 = 0 := by omega
            rw [this]; simp
          · cases E
        · rename_i p
          obtain ⟨q', rfl, g5, g6, g7⟩ := g4 p rfl
          have hval : (if m.getD c' = l.getD 0 then some q' else (some q').map (·.add (l.getD 0 * ii.size))) = some (if m.getD c' = l.getD 0 then q' else q'.add (l.getD 0 * ii.size)) := by split <;> rfl
          rw [hval] at run
          have hAR : AR r ⟨p.block, p.off + l.getD 0 * ii.size, none⟩ (if m.getD c' = l.getD 0 then q' else q'.add (l.getD 0 * ii.size)) ∨ m.getD c' - l.getD 0 = 0 := by
            by_cases q : m.getD c' = l.getD 0
            · right; omega
            · rw [if_neg q]
              left
              obtain ⟨m1, L, m2, rfl⟩ := g5.resolve_right (by omega)
              exact ⟨rfl, L, m2, by rw [add_none, Nat.add_assoc]⟩
          split at E
          · rename_i hodd; cases E
            refine Stp.pure' R (.sl hAR (by omega) (by omega) (fun _ => ?_) (fun q => by omega)) run
            rcases hodd with hodd | hodd
            · have := g6 hodd; rw [this]
              cases m with
              | none => simp only [Option.getD_none]; omega
              | some m => simp only [Option.getD_some]; omega
            · cases m with
              | none => cases hodd
              | some m => simp only [Option.getD_some]; omega
          · rename_i hodd
            split at E
            · rename_i B hB
              split at E
              · rename_i hes; cases E
                refine Stp.pure' R (.sl hAR (by omega) (by omega) (fun q => by omega) (fun _ => ?_)) run
                obtain ⟨L, m1, m2⟩ := g7 (by omega)
                obtain ⟨L', _, _, _, n1, _, n3, _⟩ := R.cells _ B hB
                rw [m1] at n1; cases n1
                have he2 : L.es = ii.size := n3.trans hes
                refine ⟨L, m1, ?_⟩
                rw [he2] at m2 ⊢
                have : l.getD 0 * ii.size + (m.getD c' - l.getD 0) * ii.size = m.getD c' * ii.size := by rw [← Nat.add_mul]; congr 1; omega
                have h5 : m.getD c' * ii.size ≤ c' * ii.size := Nat.mul_le_mul_right _ c3'
                simp only; omega
              · cases E
            · cases E
      · cases E
    · cases E
  · cases E

theorem s_slA (R : Rel base r h w) (he : EnvR r e a.tmps) (hnm : ∀ n, nm = some n → n < h.next ∧ r n = none) {t el : TypeId} {n s : Nat} {x : Operand} {lo hi mx : Option Operand} {o : Oper} (ho : o.op = .slice t x lo hi mx) (ht : P.underlying t = some (.array n el)) (hs : szOf P el = some s)
    (E : opE (.slA n s x lo hi mx) e h nm = some (v, h2)) : Stp base nm r h w v h2 ((execOp a.eval o).run P w) := by
  simp only [opE] at E
  obtain ⟨ii, hi', rfl⟩ := info_of_szOf hs
  split at E
  · rename_i p hp
    split at E
    · rename_i l hh m hl hhh hm
      split at E
      · rename_i hc; cases E
        obtain ⟨c1, c2, c3, c4⟩ := hc
        obtain ⟨L, m1, m2, e1⟩ := (ev_sound he hp).ptr_inv
        have hb := run_bounds (P := P) he (sl := false) (n := n) (cap := n) (mx := mx) (m := m) hl hhh hm c1 c2 c3 c4 w
        refine Stp.pure' R (v' := .slice (some (if m.getD n = l.getD 0 then ⟨L.b, L.o + p.off, none⟩ else (⟨L.b, L.o + p.off, none⟩ : Addr).add (l.getD 0 * ii.size))) (hh.getD n - l.getD 0) (m.getD n - l.getD 0)) (.sl ?_ (by omega) (by omega) (fun _ => by omega) (fun q => by omega)) ?_
        · by_cases q : m.getD n = l.getD 0
          · right; omega
          · rw [if_neg q]; left; exact ⟨rfl, L, m2, by rw [add_none, Nat.add_assoc]⟩
        · simp [execOp, ho, Instr.sliceAt, run_underlying ht, e1, Instr.sureAddr, hb, run_sizeOf' hi']
      · cases E
    · cases E
  · cases E

theorem s_cvB (R : Rel base r h w) (he : EnvR r e a.tmps) (hnm : ∀ n, nm = some n → n < h.next ∧ r n = none) {s d el : TypeId} {x : Operand} {o : Oper} (ho : o.op = .convert s d x) (hs : P.underlying s = some (.slice el)) (hel : P.underlying el = some (.int .u8)) (hd : P.underlying d = some .string)
    (E : opE (.cvB x) e h nm = some (v, h2)) : Stp base nm r h w v h2 ((execOp a.eval o).run P w) := by
  simp only [opE] at E
  split at E
  · rename_i hx; cases E
    obtain ⟨p', c', e1, g1, g2, g3, g4⟩ := (ev_sound he hx).slice_inv
    obtain ⟨rfl, _, _, rfl⟩ := g3 rfl
    refine Stp.pure' R (.string _) ?_
    simp [execOp, ho, e1, convert, run_underlying hs, run_underlying hd, run_underlying hel, Conv.bytesToString]
  · rename_i p n c hx
    split at E
    · rename_i vs hvs
      split at E
      · rename_i u hu; cases E
        obtain ⟨p', c', e1, g1, g2, g3, g4⟩ := (ev_sound he hx).slice_inv
        obtain ⟨q', rfl, g5, _⟩ := g4 p rfl
        have hz : n = 0 ∨ AR r p q' := by
          rcases g5 with g5 | g5
          · exact .inr g5
          · left; omega
        obtain ⟨vs', k1, k2, k3, k4⟩ := lds_run (P := P) R hz hvs
        obtain ⟨ns, j1, j2⟩ := bytesL_run hu
        have hvs' : vs' = ns.map (Value.int .u8) := by
          subst j1
          refine List.ext_getElem? fun i => ?_
          cases hq : (ns.map (Value.int IntKind.u8))[i]? with
          | none =>
            have := k2.1
            rw [List.getElem?_eq_none_iff] at hq ⊢
            omega
          | some y =>
            obtain ⟨y', y1, y2⟩ := k2.get hq
            rw [List.getElem?_map] at hq
            cases hn : ns[i]? with
            | none => rw [hn] at hq; cases hq
            | some z => rw [hn] at hq; cases hq; rw [y1, VR.int_inv y2]
        refine Stp.pure' R (.string _) ?_
        have hr := run_bytesToString (P := P) w q' n c' ns (by rw [← hvs']; exact k1 w rfl)
        simp [execOp, ho, e1, run_convert_bytes_string w s d el (some q') n c' hs hel hd, hr, ← j2]
      · cases E
    · cases E
  · cases E

end ops
end Go.Proofs.Ytncpdahappmhkaa.Am
