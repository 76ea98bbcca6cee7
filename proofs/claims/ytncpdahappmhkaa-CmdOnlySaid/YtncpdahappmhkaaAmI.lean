/- The abstract machine's operations are the model's: what makes and copies rows. -/
import Derived.Test.YtncpdahappmhkaaAmH
import Derived.Laws.MakeOwn
import Derived.Lib.AppendZerosOnto
namespace Go.Proofs.Ytncpdahappmhkaa.Am
open Go Go.Lib
set_option linter.unusedVariables false
set_option linter.unusedSimpArgs false
variable {P : Program} {base : Nat} {r : Rho} {h h2 : H} {w : World} {e : Env} {a : Act} {nm : Option Nat} {v : Value}

theorem le_grownCap (w : World) (need old : Nat) (el : TypeId) : need ≤ grownCap w need old el := by
  unfold grownCap; simp only [Question.cut]; omega

theorem Fr.kill {n : Nat} (R : Rel base r h w) : Rel base r (h.set n none) w ∧ Fr base r h w r (h.set n none) w := by
  have hs : ∀ m B, (h.set n none).get m = some B → h.get m = some B := fun m B q => by
    rw [H.get_set] at q; split at q
    · cases q
    · exact q
  exact ⟨R.sub hs (Nat.le_refl _), Rho.le_refl r, Nat.le_refl _, Nat.le_refl _, rfl, rfl, rfl, fun _ _ _ => rfl, fun m B L h1 h2 h3 _ => ⟨m, B, L, hs _ _ h1, h2, h3, rfl⟩⟩

/-- An append in the model: in place. -/
theorem run_append_in {t u ty el : TypeId} {i : TypeInfo} (ht : P.underlying t = some (.slice el)) (hu : isSrc P u = true) (hi : P.info? el = some i) {b : Option Addr} {len cap n : Nat} {y : Value} {new : List Value}
    (hl : ∀ w, (Builtin.lenOf y).run P w = .ok n w) (hf : (Builtin.firstCells i.size n y).run P w = .ok new.toArray w) (hle : len + n ≤ cap) {w2 : World}
    (hs : match b with | some a => (storeCells (a.add (len * i.size)) new).run P w = .ok () w2 | none => w2 = w) :
    (Builtin.append_ #[t, u] ty #[.slice b len cap, y]).run P w = .ok (.slice b (len + n) cap) w2 := by
  unfold isSrc at hu
  cases hd : P.underlying u with
  | none => rw [hd] at hu; cases hu
  | some d =>
    rw [hd] at hu
    cases b with
    | none =>
      subst hs
      cases d <;> first | (simp at hu; done) | simp [Builtin.append_, run_underlying ht, run_underlying hd, sizeOf, typeInfo, hi, hl, hf, hle]
    | some a =>
      simp only at hs
      cases d <;> first | (simp at hu; done) | simp [Builtin.append_, run_underlying ht, run_underlying hd, sizeOf, typeInfo, hi, hl, hf, hle, hs]
/-- An append in the model: into a new row. -/
theorem run_append_out {t u ty el : TypeId} {i : TypeInfo} {z : Value} (ht : P.underlying t = some (.slice el)) (hu : isSrc P u = true) (hi : P.info? el = some i) (hz : i.zero = some z) {b : Option Addr} {len cap n : Nat} {y : Value} {old new : List Value}
    (hl : ∀ w, (Builtin.lenOf y).run P w = .ok n w) (hf : (Builtin.firstCells i.size n y).run P w.drew = .ok new.toArray w.drew) (hg : cap < len + n)
    (ho : (Builtin.firstCells i.size len (.slice b len cap)).run P w.drew = .ok old.toArray w.drew) (h63 : len + n ≤ 1099511627776) (hfit : (len + n) * i.bytes ≤ 140737488355328) :
    (Builtin.append_ #[t, u] ty #[.slice b len cap, y]).run P w = .ok (.slice (some ⟨w.heap.size, 0, none⟩) (len + n) (grownCap w (len + n) cap el))
      (w.drew.alloc (.cells (old.toArray ++ new.toArray ++ Builtin.zeroCells z.cells (grownCap w (len + n) cap el - (len + n))) el)) := by
  have hn : ¬ (len + n ≤ cap) := by omega
  have h63' : ¬ (9223372036854775807 < ((len : Int) + (n : Int))) := by omega
  have hfit' := growslice_fits hg hfit
  have h48' : ¬ (281474976710656 < Builtin.nextslicecap (len + n) cap * i.bytes) := by omega
  unfold isSrc at hu
  cases hd : P.underlying u with
  | none => rw [hd] at hu; cases hu
  | some d =>
    rw [hd] at hu
    cases d <;> first | (simp at hu; done) | skip
    all_goals
      simp [Builtin.append_, run_underlying ht, run_underlying hd, sizeOf, typeInfo, zeroValue, hi, hz, hl, hn, h63', h48', Question.forced, hf, ho, newRow, grownCap]
      congr 2
      apply Array.ext'
      simp [List.append_assoc]

section ops

theorem s_cvY (R : Rel base r h w) (he : EnvR r e a.tmps) (hnm : ∀ n, nm = some n → n < h.next ∧ r n = none) {s d el : TypeId} {u : TypeDesc} {x : Operand} {o : Oper} (ho : o.op = .convert s d x) (hs : P.underlying s = some u) (hel : P.underlying el = some (.int .u8)) (hd : P.underlying d = some (.slice el))
    (E : opE (.cvY x) e h nm = some (v, h2)) : Stp base nm r h w v h2 ((execOp a.eval o).run P w) := by
  simp only [opE] at E
  split at E
  · rename_i str hx; cases E
    have k := VR.string_inv (ev_sound he hx)
    have hsz : (bytesCells w el str).size = grownCap w str.size 0 el := by
      have := le_grownCap w str.size 0 el
      simp [bytesCells]; omega
    have hg := le_grownCap w str.size 0 el
    obtain ⟨r2, g1, g2, g3, g4⟩ := R.drew.mkb (cs := (str.data.map fun b => Value.int .u8 b.toNat).toList) (c := bytesCells w el str) (t := el) (es := 1) (lim := (bytesCells w el str).size) hnm (by rw [hsz]; simpa using hg) (Nat.le_refl _) (fun i y hy => by
      have hm := List.mem_of_getElem? hy
      simp only [Array.toList_map, List.mem_map] at hm
      obtain ⟨b, _, rfl⟩ := hm
      refine ⟨rfl, _, ?_, .int ..⟩
      have hi : i < str.size := by
        have h1 := (List.getElem?_eq_some_iff.1 hy).1
        simp only [Array.toList_map, List.length_map, Array.length_toList] at h1
        simpa using h1
      unfold bytesCells
      rw [Array.getElem?_append_left (by simpa using hi)]
      simpa using hy)
    have hsz2 : w.drew.heap.size = w.heap.size := rfl
    have g2' := g2.refreeze (w2 := bytesWorld w el str) (b0 := w.heap.size) (c := bytesCells w el str) (t := el) (fz := (0, 0)) (by show (w.heap.push _)[w.heap.size]? = _; simp) (bytesWorld_at_new w el str)
      (fun b hb => by
        rcases Nat.lt_or_ge b w.heap.size with hl | hl
        · rw [bytesWorld_at_old _ _ _ _ hl]; exact (Go.RowKit.Below.heap_alloc w.drew _ b hl).symm
        · rw [Array.getElem?_eq_none (by rw [bytesWorld_size]; omega), Array.getElem?_eq_none (by simp; omega)]) (by rw [bytesWorld_size]; simp) (fun k hk => by simp only; omega)
    refine ⟨r2, bytesWorld w el str, .slice (some ⟨w.heap.size, 0, none⟩) str.size (grownCap w str.size 0 el), .inl ?_, .sl (.inl (AR.at g1 rfl)) hg (by omega) (fun q => by omega) (fun _ => ⟨_, g1, by rw [hsz]; simp⟩), g2', ?_, g4⟩
    · simp [execOp, ho, k, run_convert_string_bytes w s d el str hs hd hel]
    · refine ⟨g3.le, g3.next, by rw [bytesWorld_size]; omega, rfl, rfl, rfl, fun b hb hn => bytesWorld_at_old _ _ _ _ hb, g3.cov⟩
  · cases E

theorem s_mkS (R : Rel base r h w) (he : EnvR r e a.tmps) (hnm : ∀ n, nm = some n → n < h.next ∧ r n = none) {t el : TypeId} {by_ : Nat} {z : List Value} {l c : Operand} {o : Oper} (ho : o.op = .makeSlice t l c) (ht : P.underlying t = some (.slice el)) (hz : zeroL P el = some z) (hb : bytesOf' P el = some by_)
    (E : opE (.mkS z.length by_ z l c) e h nm = some (v, h2)) : Stp base nm r h w v h2 ((execOp a.eval o).run P w) := by
  simp only [opE] at E
  split at E
  · rename_i kl li hl
    split at E
    · rename_i kc ci hc
      split at E
      · rename_i hh; cases E
        obtain ⟨i, zv, q1, q2, q3, q4, q5⟩ := zeroL_spec hz
        have hb2 : i.bytes = by_ := by unfold bytesOf' at hb; rw [q1] at hb; simpa using hb
        subst hb2
        have k1 := VR.int_inv (ev_sound he hl)
        have k2 := VR.int_inv (ev_sound he hc)
        have qs : zv.cells.size = i.size := by rw [← q5, ← q3]; simp
        have hmk : (madeCells zv.cells (ci.toNat * i.size)).toList = zrep z ci.toNat := by
          unfold madeCells; rw [← qs, zrep_array, q3]
        obtain ⟨r2, g1, g2, g3, g4⟩ := R.mkb (cs := zrep z ci.toNat) (c := madeCells zv.cells (ci.toNat * i.size)) (t := el) (es := z.length) (lim := (zrep z ci.toNat).length) hnm (Nat.le_refl _) (by rw [← hmk]; simp) (fun k y hy => by
          have hp := List.all_eq_true.1 (zrep_plain q4 ci.toNat) y (List.mem_of_getElem? hy)
          exact ⟨oneCell_of_plain1 hp, y, by rw [← hmk] at hy; simpa using hy, VR.of_plain1 hp⟩)
        refine ⟨r2, _, .slice (some ⟨w.heap.size, 0, none⟩) li.toNat ci.toNat, .inl ?_, .sl (.inl (AR.at g1 rfl)) (by omega) (by omega) (fun _ => by omega) (fun q => by omega), g2, g3, g4⟩
        have := run_make (P := P) w t el i zv ht q1 q2 kl kc li ci hh.1 hh.2.1 (by omega) (by omega)
        simp [execOp, ho, k1, k2, this]
      · cases E
    · cases E
  · cases E

theorem s_capV (R : Rel base r h w) (he : EnvR r e a.tmps) (hnm : ∀ n, nm = some n → n < h.next ∧ r n = none) {t el : TypeId} {x : Operand} {c : Call} {o : Oper} (ho : o.op = .call c) (hc : c.callee = .builtin .cap) (hx : c.args.toList = [x]) (hts : c.argTypes.toList = [t]) (ht : P.underlying t = some (.slice el))
    (E : opE (.capV x) e h nm = some (v, h2)) : Stp base nm r h w v h2 ((execOp a.eval o).run P w) := by
  simp only [opE] at E
  have hx : c.args = #[x] := by rw [← hx]
  have hts : c.argTypes = #[t] := by rw [← hts]
  split at E
  · rename_i p n cc hp
    split at E
    · rename_i hodd; cases E
      obtain ⟨p', c', k, _, _, _, g4⟩ := (ev_sound he hp).slice_inv
      have hcc : c' = cc / 2 := by
        cases p with
        | none =>
          have := ev_sound he hp
          generalize a.eval x = q at this
          cases this; simp at hodd
        | some q => obtain ⟨_, _, _, g6, _⟩ := g4 q rfl; exact g6 hodd
      refine Stp.pure' R (.int ..) ?_
      simp [execOp, ho, hc, hx, hts, resolve, invoke, builtin, Builtin.cap_, run_underlying ht, k, goInt, hcc]
    · cases E
  · cases E
theorem s_apz (R : Rel base r h w) (he : EnvR r e a.tmps) (hnm : ∀ n, nm = some n → n < h.next ∧ r n = none) {t u el : TypeId} {b : Nat} {z : List Value} {x y : Operand} {c : Call} {o : Oper} (ho : o.op = .call c) (hc : c.callee = .builtin .append) (hx : c.args.toList = [x, y]) (hts : c.argTypes.toList = [t, u]) (ht : P.underlying t = some (.slice el)) (hu : isIntT P u = true)
    (hb : bytesOf' P el = some b) (hz : zeroL P el = some z) (E : opE (.apz z b x y) e h nm = some (v, h2)) : Stp base nm r h w v h2 ((execOp a.eval o).run P w) := by
  have hx : c.args = #[x, y] := by rw [← hx]
  have hts : c.argTypes = #[t, u] := by rw [← hts]
  obtain ⟨i, zv, q1, q2, q3, q4, q5⟩ := zeroL_spec hz
  have hb2 : i.bytes = b := by unfold bytesOf' at hb; rw [q1] at hb; simpa using hb
  subst hb2
  obtain ⟨kn, htn⟩ : ∃ kn, P.underlying u = some (.int kn) := by
    unfold isIntT at hu; split at hu
    · exact ⟨_, by assumption⟩
    · cases hu
  have hrun : ∀ {res w2}, (Builtin.append_ #[t, u] o.type #[a.eval x, a.eval y]).run P w = .ok res w2 → (execOp a.eval o).run P w = .ok (.value res) w2 := fun {res w2} q => by
    simp [execOp, ho, hc, hx, hts, resolve, invoke, builtin, q]
  simp only [opE] at E
  split at E
  · rename_i p len cc hxv
    split at E
    · rename_i kq k hyv
      split at E
      · rename_i hcnd
        split at E
        · rename_i old hold; cases E
          obtain ⟨c1, c2, c3, c4, c5, c6⟩ := hcnd
          obtain ⟨p', c', e1, g1, g2, _, g4⟩ := (ev_sound he hxv).slice_inv
          obtain ⟨q', rfl, g5, g6, g7⟩ := g4 p rfl
          have hcc := g6 c2
          have ky := VR.int_inv (ev_sound he hyv)
          obtain ⟨m, hm⟩ : ∃ m : Nat, k = m := ⟨k.toNat, (Int.toNat_of_nonneg (Int.le_of_lt c1)).symm⟩
          subst hm
          have hm2 : ((m : Int)).toNat = m := Int.toNat_natCast m
          have hm0 : 0 < m := by omega
          have hzs : z.length = i.size := q5
          simp only [hm2, hzs] at c3 c4 c5 c6 hold ⊢
          have hz5 : len * i.size = 0 ∨ AR r p q' := by
            rcases g5 with g5 | g5
            · exact .inr g5
            · left; have : len = 0 := by omega
              rw [this, Nat.zero_mul]
          obtain ⟨old', o1, o2, o3, o4⟩ := lds_run (P := P) R hz5 hold
          have hfo : (Builtin.firstCells i.size len (.slice (some q') len c')).run P w.drew = .ok old'.toArray w.drew := by simpa [Builtin.firstCells] using o1 w.drew rfl
          have hgt : c' < len + m := by omega
          have hfit' := growslice_fits (bytes := i.bytes) hgt c6
          have hr := Go.Lib.run_append_grow_zeros w t u o.type el i zv kq kn ht htn q1 q2 (some q') len c' old' hfo m hm0 c4 hgt (by omega) (by
            have : m * i.bytes ≤ (len + m) * i.bytes := Nat.mul_le_mul_right _ (by omega)
            omega) (by omega)
          have hg := le_grownCap w (len + m) c' el
          have hzc : ∀ n, (Builtin.zeroCells zv.cells n).toList = zrep z n := fun n => by rw [zeroCells_list, q3]
          have hzl : ∀ n, (Builtin.zeroCells zv.cells n).size = n * i.size := fun n => by rw [← Array.length_toList, hzc, zrep_length, hzs]
          have hso : old'.length = len * i.size := by rw [← o2.1, o3]
          have hmul : (len + m) * i.size + (grownCap w (len + m) c' el - (len + m)) * i.size = grownCap w (len + m) c' el * i.size := by rw [← Nat.add_mul]; congr 1; omega
          have hsz : (old'.toArray ++ Builtin.zeroCells zv.cells m ++ Builtin.zeroCells zv.cells (grownCap w (len + m) c' el - (len + m))).size = grownCap w (len + m) c' el * i.size := by
            rw [Array.size_append, Array.size_append, hzl, hzl, List.size_toArray, hso, ← hmul, Nat.add_mul]
          have hle : (old ++ zrep z m).length ≤ grownCap w (len + m) c' el * i.size := by
            rw [List.length_append, o3, zrep_length, hzs, ← Nat.add_mul]; exact Nat.mul_le_mul_right _ hg
          have hpl := List.all_eq_true.1 (zrep_plain q4 m)
          have hall : (old ++ zrep z m).all (·.oneCell') = true := by
            rw [List.all_append, Bool.and_eq_true]
            exact ⟨List.all_eq_true.2 o4, List.all_eq_true.2 fun v hv => oneCell_of_plain1 (hpl v hv)⟩
          have hzz : VL r (zrep z m) (zrep z m) := ⟨rfl, fun i v v' e1 e2 => by rw [e1] at e2; cases e2; exact VR.of_plain1 (hpl v (List.mem_of_getElem? e1))⟩
          obtain ⟨r2, n1, n2, n3, n4⟩ := R.drew.mkb (nm := nm) (cs := old ++ zrep z m) (c := old'.toArray ++ Builtin.zeroCells zv.cells m ++ Builtin.zeroCells zv.cells (grownCap w (len + m) c' el - (len + m))) (t := el) (es := i.size) (lim := grownCap w (len + m) c' el * i.size) hnm hle (by rw [hsz]; exact Nat.le_refl _) (fun k y hy => by
            obtain ⟨p1, p2, p3, p4⟩ := (o2.append hzz).cells_of hall (Builtin.zeroCells zv.cells (grownCap w (len + m) c' el - (len + m))).toList k y hy
            refine ⟨p1, p2, ?_, p4⟩
            rw [← p3]; congr 1
            apply Array.ext'; simp [hzc])
          refine ⟨r2, _, _, .inl (hrun (by rw [e1, ky]; exact hr)), .sl (.inl (AR.at n1 rfl)) hg (by omega) (fun q => by omega) (fun _ => ⟨_, n1, by simp⟩), n2, n3.drew', n4⟩
        · cases E
      · cases E
    · cases E
  · cases E

theorem s_app (R : Rel base r h w) (he : EnvR r e a.tmps) (hnm : ∀ n, nm = some n → n < h.next ∧ r n = none) {t u el : TypeId} {s b : Nat} {x y : Operand} {c : Call} {o : Oper} (ho : o.op = .call c) (hc : c.callee = .builtin .append) (hx : c.args.toList = [x, y]) (hts : c.argTypes.toList = [t, u]) (ht : P.underlying t = some (.slice el)) (hu : isSrc P u = true)
    (hs : szOf P el = some s) (hb : bytesOf' P el = some b) (hz : (zeroL P el).isSome = true) (E : opE (.app s b x y) e h nm = some (v, h2)) : Stp base nm r h w v h2 ((execOp a.eval o).run P w) := by
  have hx : c.args = #[x, y] := by rw [← hx]
  have hts : c.argTypes = #[t, u] := by rw [← hts]
  obtain ⟨z, hz⟩ := Option.isSome_iff_exists.1 hz
  obtain ⟨i, zv, q1, q2, q3, q4, q5⟩ := zeroL_spec hz
  have hs2 : i.size = s := by unfold szOf at hs; rw [q1] at hs; simpa using hs
  have hb2 : i.bytes = b := by unfold bytesOf' at hb; rw [q1] at hb; simpa using hb
  subst hs2 hb2
  have qs : zv.cells.size = i.size := by rw [← q5, ← q3]; simp
  have hrun : ∀ {res w2}, (Builtin.append_ #[t, u] o.type #[a.eval x, a.eval y]).run P w = .ok res w2 → (execOp a.eval o).run P w = .ok (.value res) w2 := fun {res w2} q => by
    simp [execOp, ho, hc, hx, hts, resolve, invoke, builtin, q]
  simp only [opE] at E
  split at E
  · rename_i xv hxv
    split at E
    · rename_i yv hyv
      have kx := ev_sound he hxv
      have ky := ev_sound he hyv
      unfold appE at E
      split at E
      · cases E
      · rename_i n hn
        split at E
        · cases E
        · rename_i src hsrc
          obtain ⟨src', l1, l2, l3, l4, l5⟩ := src_sound (P := P) R ky hn (Nat.le_refl _) hsrc
          -- a new row
          have newrow : ∀ (B : Option Addr) (len cap : Nat) (old old' : List Value) (w0 : World) (hR : H), Rel base r hR w → hR.next = h.next → (∀ n, nm = some n → n < hR.next ∧ r n = none) → a.eval x = .slice B len cap → cap < len + n → VL r old old' → old.length = len * i.size → (∀ v ∈ old, v.oneCell' = true) → src.all (·.oneCell') = true →
              (Builtin.firstCells i.size len (.slice B len cap)).run P w.drew = .ok old'.toArray w.drew → len + n ≤ 1099511627776 → (len + n) * i.bytes ≤ 140737488355328 →
              ∃ r2 w2 v', (execOp a.eval o).run P w = .ok (.value v') w2 ∧ VR r2 (.slice (some ⟨(hR.mkb nm ⟨old ++ src, i.size, false⟩).1, 0, none⟩) (len + n) (2 * (len + n))) v' ∧ Rel base r2 (hR.mkb nm ⟨old ++ src, i.size, false⟩).2 w2 ∧ Fr base r hR w r2 (hR.mkb nm ⟨old ++ src, i.size, false⟩).2 w2 ∧ Fsh nm r hR r2 := by
            intro B len cap old old' w0 hR RR hnx hnm2 e1 hgt ho ho1 ho2 hs1 hfo h63 hfit
            have hr := run_append_out (P := P) (ty := o.type) ht hu q1 q2 l1 l3 hgt hfo h63 hfit
            have hg := le_grownCap w (len + n) cap el
            have hzc : (Builtin.zeroCells zv.cells (grownCap w (len + n) cap el - (len + n))).toList = zrep z (grownCap w (len + n) cap el - (len + n)) := by rw [zeroCells_list, q3]
            have hso : old'.length = len * i.size := by rw [← ho.1, ho1]
            have hss : src'.length = n * i.size := by rw [← l4.1, l5]
            have hmul : (len + n) * i.size + (grownCap w (len + n) cap el - (len + n)) * i.size = grownCap w (len + n) cap el * i.size := by rw [← Nat.add_mul]; congr 1; omega
            have hsz : (old'.toArray ++ src'.toArray ++ Builtin.zeroCells zv.cells (grownCap w (len + n) cap el - (len + n))).size = grownCap w (len + n) cap el * i.size := by
              have hzs : (Builtin.zeroCells zv.cells (grownCap w (len + n) cap el - (len + n))).size = (grownCap w (len + n) cap el - (len + n)) * i.size := by
                rw [← Array.length_toList, hzc, zrep_length, q5]
              rw [Array.size_append, Array.size_append, hzs, List.size_toArray, List.size_toArray, hso, hss, ← hmul, Nat.add_mul]
            have hle : (old ++ src).length ≤ grownCap w (len + n) cap el * i.size := by
              rw [List.length_append, ho1, l5, ← Nat.add_mul]; exact Nat.mul_le_mul_right _ hg
            have hall : (old ++ src).all (·.oneCell') = true := by
              rw [List.all_append, hs1, Bool.and_true]; exact List.all_eq_true.2 ho2
            obtain ⟨r2, g1, g2, g3, g4⟩ := RR.drew.mkb (nm := nm) (cs := old ++ src) (c := old'.toArray ++ src'.toArray ++ Builtin.zeroCells zv.cells (grownCap w (len + n) cap el - (len + n))) (t := el) (es := i.size) (lim := grownCap w (len + n) cap el * i.size) hnm2 hle (by rw [hsz]; exact Nat.le_refl _) (fun k y hy => by
              obtain ⟨p1, p2, p3, p4⟩ := (ho.append l4).cells_of hall (Builtin.zeroCells zv.cells (grownCap w (len + n) cap el - (len + n))).toList k y hy
              refine ⟨p1, p2, ?_, p4⟩
              rw [← p3]; congr 1
              apply Array.ext'; simp)
            refine ⟨r2, _, _, hrun (by rw [e1]; exact hr), .sl (.inl (AR.at g1 rfl)) hg (by omega) (fun q => by omega) (fun _ => ⟨_, g1, by simp⟩), g2, g3.drew', g4⟩
          split at E
          · -- the nil slice
            obtain ⟨p', c', e1, _, _, g3, _⟩ := kx.slice_inv
            obtain ⟨rfl, _, _, rfl⟩ := g3 rfl
            split at E
            · rename_i hn0; cases E; subst hn0
              have hsrc0 : src' = [] := by
                have := l4.1; rw [l5] at this; exact List.eq_nil_of_length_eq_zero (by omega)
              have := run_append_in (P := P) (ty := o.type) (w := w) (w2 := w) ht hu q1 (b := none) (len := 0) (cap := 0) l1 l2 (by omega) rfl
              exact Stp.pure' R .sl0 (hrun (by rw [e1]; exact this))
            · rename_i hn0
              split at E
              · rename_i hcnd; cases E
                obtain ⟨r2, w2, v', m1, m2, m3, m4, m5⟩ := newrow none 0 0 [] [] w h R rfl hnm e1 (by omega) (VL.nil r) (by simp) (fun v hv => by simp at hv) hcnd.2.2 (by simp [Builtin.firstCells]) (by omega) (by simpa using hcnd.1)
                simp only [List.nil_append, Nat.zero_add] at m2 m3 m4
                exact ⟨r2, w2, v', .inl m1, m2, m3, m4, m5⟩
              · cases E
          · -- a slice of a row
            rename_i p len c
            obtain ⟨p', c', e1, g1, g2, _, g4⟩ := kx.slice_inv
            obtain ⟨q', rfl, g5, g6, g7⟩ := g4 p rfl
            simp only at E
            split at E
            · rename_i hin
              split at E
              · rename_i h3 hst; cases E
                have hAR : src = [] ∨ AR r ⟨p.block, p.off + len * i.size, none⟩ (q'.add (len * i.size)) := by
                  rcases g5 with ⟨s1, L, s2, rfl⟩ | g5
                  · right; exact ⟨rfl, L, s2, by rw [add_none, Nat.add_assoc]⟩
                  · left
                    have : n = 0 := by omega
                    rw [this] at l5; simpa using l5
                obtain ⟨w2, m1, m2, m3⟩ := sts_run (P := P) R hAR l4 hst
                have := run_append_in (P := P) (ty := o.type) (w := w) (w2 := w2) ht hu q1 (b := some q') (len := len) (cap := c') l1 l2 (by omega) m1
                exact ⟨r, w2, _, .inl (hrun (by rw [e1]; exact this)), .sl g5 (by omega) g2 g6 g7, m2, m3, Fsh.refl nm r h⟩
              · cases E
            · rename_i hout
              split at E
              · rename_i hcnd
                split at E
                · cases E
                · rename_i old hold
                  have hz5 : len * i.size = 0 ∨ AR r p q' := by
                    rcases g5 with g5 | g5
                    · exact .inr g5
                    · left; have : len = 0 := by omega
                      rw [this, Nat.zero_mul]
                  obtain ⟨old', o1, o2, o3, o4⟩ := lds_run (P := P) R hz5 hold
                  have hfo : (Builtin.firstCells i.size len (.slice (some q') len c')).run P w.drew = .ok old'.toArray w.drew := by simpa [Builtin.firstCells] using o1 w.drew rfl
                  split at E
                  · rename_i hodd; cases E
                    have hcc := g6 hodd
                    obtain ⟨r2, w2, v', m1, m2, m3, m4, m5⟩ := newrow (some q') len c' old old' w h R rfl hnm e1 (by omega) o2 o3 o4 hcnd.2.2 hfo hcnd.2.1 hcnd.1
                    exact ⟨r2, w2, v', .inl m1, m2, m3, m4, m5⟩
                  · rename_i hodd
                    split at E
                    · rename_i B hB
                      split at E
                      · rename_i hcB; cases E
                        obtain ⟨hro, hes, hsp⟩ := hcB
                        obtain ⟨RK, FK⟩ := Fr.kill (n := p.block) R
                        by_cases hcap : c' < len + n
                        · obtain ⟨r2, w2, v', m1, m2, m3, m4, m5⟩ := newrow (some q') len c' old old' w (h.set p.block none) RK rfl (fun n q => by cases q) e1 hcap o2 o3 o4 hcnd.2.2 hfo hcnd.2.1 hcnd.1
                          exact ⟨r2, w2, v', .inl m1, m2, m3, FK.trans m4, m5⟩
                        · -- in place, behind the cells that were known
                          obtain ⟨s1, L, s2, rfl⟩ := g5.resolve_right (by omega)
                          obtain ⟨L', cc, et, fz, n1, n2, n3, n4, n5, n6, n7⟩ := R.cells _ B hB
                          rw [s2] at n1; cases n1
                          obtain ⟨L', n1, n8⟩ := g7 (by omega)
                          rw [s2] at n1; cases n1
                          have hLe : L.es = i.size := n3.trans hes
                          rw [hLe] at n8
                          have hmul : len * i.size + n * i.size ≤ c' * i.size := by rw [← Nat.add_mul]; exact Nat.mul_le_mul_right _ (by omega)
                          have hl' : src'.length = n * i.size := by rw [← l4.1, l5]
                          obtain ⟨w2, c2, t1, t2, t3, t4⟩ := run_storeCells (P := P) src' 0 L.b (L.o + (p.off + len * i.size)) w cc et fz n2 (by omega) (fun v' hv' => by
                            obtain ⟨k, hk, rfl⟩ := List.getElem_of_mem hv'
                            obtain ⟨y, y1, y2⟩ := l4.get' (List.getElem?_eq_getElem hk)
                            rw [y2.oneCell]; exact List.all_eq_true.1 hcnd.2.2 y (List.mem_of_getElem? y1)) (fun k k1 k2 => (n6 hro).2 k (by omega) (by omega))
                          have hrn := run_append_in (P := P) (ty := o.type) (w := w) (w2 := w2) ht hu q1 (b := some ⟨L.b, L.o + p.off, none⟩) (len := len) (cap := c') l1 l2 (by omega) (by simp only; rw [add_none, Nat.add_assoc]; exact t1)
                          have hfresh : r h.next = none := R.new _ (Nat.le_refl _)
                          have hle : r.le (r.put h.next ⟨L.b, L.o + p.off, L.lim - p.off, i.size⟩) := Rho.le_put hfresh
                          have hlt := R.lt hB
                          have hold' : ∀ (k : Nat) (y : Value), old[k]? = some y → B.cells[p.off + k]? = some y ∧ k < len * i.size := fun k y hy => by
                            have hk : k < len * i.size := by rw [← o3]; exact (List.getElem?_eq_some_iff.1 hy).1
                            unfold H.lds at hold
                            rw [if_neg (by omega)] at hold
                            simp only [hsp, hB] at hold
                            split at hold
                            · cases hold
                              rw [List.getElem?_take, if_pos hk, List.getElem?_drop] at hy
                              exact ⟨hy, hk⟩
                            · cases hold
                          have hget : ∀ m Bm, ((h.set p.block none).alloc ⟨old ++ src, i.size, false⟩).get m = some Bm → (m = h.next ∧ Bm = ⟨old ++ src, i.size, false⟩) ∨ (m ≠ h.next ∧ m ≠ p.block ∧ h.get m = some Bm) := fun m Bm q => by
                            rw [H.get_alloc, H.get_set, H.next_set] at q
                            split at q
                            · rename_i e0; cases q; exact .inl ⟨e0, rfl⟩
                            · rename_i e0
                              split at q
                              · cases q
                              · rename_i e2; exact .inr ⟨e0, e2, q⟩
                          refine ⟨r.put h.next ⟨L.b, L.o + p.off, L.lim - p.off, i.size⟩, w2, _, .inl (hrun (by rw [e1]; exact hrn)), .sl (.inl ⟨rfl, _, Rho.put_same .., by simp⟩) (by omega) (by omega) (fun q => by omega) (fun _ => ⟨_, Rho.put_same .., by simp only; omega⟩), ?_, ?_, ?_⟩
                          · refine ⟨fun m Bm q => ?_, fun m k Bm Bk M N q1 q2 hne q3 q4 q5 => ?_, fun m hm => ?_, by rw [t2.size]; exact R.size, fun m Bm M q1 q2 q3 => ?_⟩
                            · rcases hget m Bm q with ⟨rfl, rfl⟩ | ⟨d1, d2, d3⟩
                              · refine ⟨_, c2, et, fz, Rho.put_same .., t2.row, rfl, by simp only [List.length_append, o3, l5]; omega, by simp only; rw [t3]; omega, fun _ => ⟨(n6 hro).1, fun k k1 k2 => (n6 hro).2 k (by simp only at k1; omega) (by simp only at k2; omega)⟩, fun k y hy => ?_⟩
                                simp only at hy ⊢
                                rw [List.getElem?_append] at hy
                                rw [o3] at hy
                                split at hy
                                · rename_i hk
                                  obtain ⟨z1, z2, z3, z4⟩ := n7 _ y (hold' k y hy).1
                                  refine ⟨z1, z2, ?_, z4.mono hle⟩
                                  rw [t4, if_neg (by omega), Nat.add_assoc]; exact z3
                                · rename_i hk
                                  obtain ⟨y', y1, y2⟩ := l4.get hy
                                  have hb := (List.getElem?_eq_some_iff.1 y1).1
                                  refine ⟨List.all_eq_true.1 hcnd.2.2 y (List.mem_of_getElem? hy), y', ?_, y2.mono hle⟩
                                  rw [t4, if_pos (by omega), ← y1]; congr 1; omega
                              · obtain ⟨M, c0, t0, f0, z1, z2, z3, z4, z5, z6, z7⟩ := R.cells m Bm d3
                                refine ⟨M, c0, t0, f0, hle _ _ z1, ?_, z3, z4, z5, z6, fun k y hy => ?_⟩
                                · rw [t2.other _ (R.inj p.block m B Bm L M hB d3 (fun q => d2 q.symm) hro s2 z1).symm]; exact z2
                                · obtain ⟨x1, x2, x3, x4⟩ := z7 k y hy; exact ⟨x1, x2, x3, x4.mono hle⟩
                            · rcases hget m Bm q1 with ⟨rfl, rfl⟩ | ⟨d1, d2, d3⟩
                              · rcases hget k Bk q2 with ⟨rfl, _⟩ | ⟨f1, f2, f3⟩
                                · exact absurd rfl hne
                                · rw [Rho.put_same] at q4; cases q4
                                  rw [Rho.put_ne _ _ f1] at q5
                                  exact R.inj p.block k B Bk L N hB f3 (fun q => f2 q.symm) hro s2 q5
                              · rw [Rho.put_ne _ _ d1] at q4
                                rcases hget k Bk q2 with ⟨rfl, _⟩ | ⟨f1, f2, f3⟩
                                · rw [Rho.put_same] at q5; cases q5
                                  exact (R.inj p.block m B Bm L M hB d3 (fun q => d2 q.symm) hro s2 q4).symm
                                · rw [Rho.put_ne _ _ f1] at q5
                                  exact R.inj m k Bm Bk M N d3 f3 hne q3 q4 q5
                            · have : h.next + 1 ≤ m := hm
                              rw [Rho.put_ne _ _ (by omega)]; exact R.new m (by omega)
                            · rcases hget m Bm q1 with ⟨rfl, rfl⟩ | ⟨d1, d2, d3⟩
                              · cases q2
                              · rw [Rho.put_ne _ _ d1] at q3; exact R.ro m Bm M d3 q2 q3
                          · refine ⟨hle, Nat.le_succ _, by rw [t2.size]; exact Nat.le_refl _, t2.os, t2.tape, t2.output, fun q hq hn => t2.other q fun e0 => hn p.block B L hB hro s2 e0.symm, fun m Bm M q1 q2 q3 q4 => ?_⟩
                            rcases hget m Bm q1 with ⟨rfl, rfl⟩ | ⟨d1, d2, d3⟩
                            · rw [Rho.put_same] at q3; cases q3; exact ⟨p.block, B, L, hB, hro, s2, rfl⟩
                            · rw [Rho.put_ne _ _ d1] at q3; exact ⟨m, Bm, M, d3, q2, q3, rfl⟩
                          · intro m hm _ hr; rw [Rho.put_ne _ _ (by omega)]; exact hr
                      · cases E
                    · cases E
              · cases E
          · cases E
    · cases E
  · cases E

theorem s_cpy (R : Rel base r h w) (he : EnvR r e a.tmps) (hnm : ∀ n, nm = some n → n < h.next ∧ r n = none) {t u el : TypeId} {s : Nat} {x y : Operand} {c : Call} {o : Oper} (ho : o.op = .call c) (hc : c.callee = .builtin .copy) (hx : c.args.toList = [x, y]) (hts : c.argTypes.toList = [t, u]) (ht : P.underlying t = some (.slice el))
    (hs : szOf P el = some s) (E : opE (.cpy s x y) e h nm = some (v, h2)) : Stp base nm r h w v h2 ((execOp a.eval o).run P w) := by
  have hx : c.args = #[x, y] := by rw [← hx]
  have hts : c.argTypes = #[t, u] := by rw [← hts]
  obtain ⟨i, hi, rfl⟩ := info_of_szOf hs
  simp only [opE] at E
  split at E
  · rename_i p n cc hp
    split at E
    · rename_i yv hyv
      split at E
      · rename_i m hm
        split at E
        · rename_i src hsrc
          obtain ⟨p', c', e1, g1, g2, g3, g4⟩ := (ev_sound he hp).slice_inv
          obtain ⟨src', l1, l2, l3, l4, l5⟩ := src_sound (P := P) R (ev_sound he hyv) hm (Nat.min_le_left m n) hsrc
          split at E
          · rename_i q
            split at E
            · rename_i h3 hst; cases E
              obtain ⟨q', rfl, g5, _⟩ := g4 q rfl
              have hAR : src = [] ∨ AR r q q' := by
                rcases g5 with g5 | g5
                · exact .inr g5
                · left
                  have h0 : n = 0 := by omega
                  subst h0
                  simp only [Nat.min_zero, Nat.zero_mul] at l5; exact List.eq_nil_of_length_eq_zero l5
              obtain ⟨w2, m1, m2, m3⟩ := sts_run (P := P) R hAR l4 hst
              refine ⟨r, w2, .int .i64 (Nat.min m n : Nat), .inl ?_, .int .., m2, m3, Fsh.refl nm r h⟩
              simp [execOp, ho, hc, hx, hts, resolve, invoke, builtin, Builtin.copy_, run_underlying ht, e1, l1, run_sizeOf' hi, l2, m1, goInt]
            · cases E
          · cases E
            obtain ⟨rfl, rfl, rfl, rfl⟩ := g3 rfl
            refine Stp.pure' R (.int ..) ?_
            have l2' : (Builtin.firstCells i.size 0 (a.eval y)).run P w = .ok src'.toArray w := by simpa using l2
            simp [execOp, ho, hc, hx, hts, resolve, invoke, builtin, Builtin.copy_, run_underlying ht, e1, l1, run_sizeOf' hi, l2', goInt]
        · cases E
      · cases E
    · cases E
  · cases E

theorem s_clr (R : Rel base r h w) (he : EnvR r e a.tmps) (hnm : ∀ n, nm = some n → n < h.next ∧ r n = none) {t el : TypeId} {z : List Value} {x : Operand} {c : Call} {o : Oper} (ho : o.op = .call c) (hc : c.callee = .builtin .clear) (hx : c.args.toList = [x]) (hts : c.argTypes.toList = [t]) (ht : P.underlying t = some (.slice el))
    (hz : zeroL P el = some z) (E : opE (.clr z.length z x) e h nm = some (v, h2)) : Stp base nm r h w v h2 ((execOp a.eval o).run P w) := by
  have hx : c.args = #[x] := by rw [← hx]
  have hts : c.argTypes = #[t] := by rw [← hts]
  obtain ⟨i, zv, q1, q2, q3, q4, q5⟩ := zeroL_spec hz
  simp only [opE] at E
  split at E
  · rename_i n cc hp; cases E
    obtain ⟨p', c', e1, g1, g2, g3, g4⟩ := (ev_sound he hp).slice_inv
    obtain ⟨rfl, _, _, rfl⟩ := g3 rfl
    refine Stp.pure' R (.tuple rfl (fun i v v' a _ => by simp at a)) (v' := .tuple #[]) ?_
    simp [execOp, ho, hc, hx, hts, resolve, invoke, builtin, Builtin.clear_, run_underlying ht, e1]
  · rename_i p n cc hp
    obtain ⟨p', c', e1, g1, g2, g3, g4⟩ := (ev_sound he hp).slice_inv
    obtain ⟨q', rfl, g5, _⟩ := g4 p rfl
    split at E
    · rename_i h0; subst h0; cases E
      refine Stp.pure' R (.tuple rfl (fun i v v' a _ => by simp at a)) (v' := .tuple #[]) ?_
      simp [execOp, ho, hc, hx, hts, resolve, invoke, builtin, Builtin.clear_, run_underlying ht, e1]
    · rename_i hn'
      split at E
      · rename_i h3 hst; cases E
        obtain ⟨m, rfl⟩ : ∃ m, n = m + 1 := ⟨n - 1, by omega⟩
        obtain ⟨w2, m1, m2, m3⟩ := sts_run (P := P) R (.inr (g5.resolve_right (by omega))) (VR.of_plainL (zrep_plain q4 (m + 1))) hst
        refine ⟨r, w2, .tuple #[], .inl ?_, .tuple rfl (fun i v v' a _ => by simp at a), m2, m3, Fsh.refl nm r h⟩
        have hzc : (Builtin.zeroCells zv.cells (m + 1)).toList = zrep z (m + 1) := by rw [zeroCells_list, q3]
        simp [execOp, ho, hc, hx, hts, resolve, invoke, builtin, Builtin.clear_, run_underlying ht, e1, run_zero' q1 q2, hzc, m1]
      · cases E
  · cases E
end ops
end Go.Proofs.Ytncpdahappmhkaa.Am
