/- The law 'KvReads' returns true for all arguments: what its proof stands on, part 3. -/
import Derived.Test.YtkfjlbdedjoojaaZKvReads2
import Derived.Laws.MakeOwn
import Derived.Lib.AppendZerosOnto
import Derived.Lib.Overlaps
import Derived.KernelRfl
namespace Go.Proofs.Ytkfjlbdedjoojaa.Am
open Go Go.Lib
set_option linter.unusedVariables false
set_option linter.unusedSimpArgs false
variable {P : Program} {base : Nat} {r : Rho} {h h2 : H} {w : World} {e : Env} {a : Act} {nm : Option Nat} {v : Value}
theorem le_grownCap (w : World) (need old : Nat) (el : TypeId) : need ≤ grownCap w need old el := by
  unfold grownCap; simp only [Question.cut]; omega
theorem Fr.kill {n : Nat} (R : Rel base r h w) : Rel base r (h.set n none) w ∧ Fr base r h w r (h.set n none) w := by
  have hs : ∀ m B, (h.set n none).get m = some B → h.get m = some B := fun m B q => by
    rw [H.get_set] at q; split at q
    · cases q
    · exact q
  exact ⟨R.sub hs (Nat.le_refl _), Rho.le_refl r, Nat.le_refl _, Nat.le_refl _, rfl, rfl, rfl, fun _ _ _ => rfl, fun m B L h1 h2 h3 _ => ⟨m, B, L, hs _ _ h1, h2, h3, rfl⟩⟩
theorem run_append_in {t u ty el : TypeId} {i : TypeInfo} (ht : P.underlying t = some (.slice el)) (hu : isSrc P u = true) (hi : P.info? el = some i) {b : Option Addr} {len cap n : Nat} {y : Value} {new : List Value}
    (hl : ∀ w, (Builtin.lenOf y).run P w = .ok n w) (hf : (Builtin.firstCells i.size n y).run P w = .ok new.toArray w) (hle : len + n ≤ cap) {w2 : World}
    (hs : match b with | some a => (storeCells (a.add (len * i.size)) new).run P w = .ok () w2 | none => w2 = w) :
    (Builtin.append_ #[t, u] ty #[.slice b len cap, y]).run P w = .ok (.slice b (len + n) cap) w2 := by
  unfold isSrc at hu
  cases hd : P.underlying u with
  | none => rw [hd] at hu; cases hu
  | some d =>
    rw [hd] at hu
    cases b with
    | none =>
      subst hs
      cases d <;> first | (simp at hu; done) | simp [Builtin.append_, run_underlying ht, run_underlying hd, sizeOf, typeInfo, hi, hl, hf, hle]
    | some a =>
      simp only at hs
      cases d <;> first | (simp at hu; done) | simp [Builtin.append_, run_underlying ht, run_underlying hd, sizeOf, typeInfo, hi, hl, hf, hle, hs]
theorem run_append_out {t u ty el : TypeId} {i : TypeInfo} {z : Value} (ht : P.underlying t = some (.slice el)) (hu : isSrc P u = true) (hi : P.info? el = some i) (hz : i.zero = some z) {b : Option Addr} {len cap n : Nat} {y : Value} {old new : List Value}
    (hl : ∀ w, (Builtin.lenOf y).run P w = .ok n w) (hf : (Builtin.firstCells i.size n y).run P w.drew = .ok new.toArray w.drew) (hg : cap < len + n)
    (ho : (Builtin.firstCells i.size len (.slice b len cap)).run P w.drew = .ok old.toArray w.drew) (h63 : len + n ≤ 4398046511104) (hfit : (len + n) * i.bytes ≤ 140737488355328) :
    (Builtin.append_ #[t, u] ty #[.slice b len cap, y]).run P w = .ok (.slice (some ⟨w.heap.size, 0, none⟩) (len + n) (grownCap w (len + n) cap el))
      (w.drew.alloc (.cells (old.toArray ++ new.toArray ++ Builtin.zeroCells z.cells (grownCap w (len + n) cap el - (len + n))) el)) := by
  have hn : ¬ (len + n ≤ cap) := by omega
  have h63' : ¬ (9223372036854775807 < ((len : Int) + (n : Int))) := by omega
  have hfit' := growslice_fits hg hfit
  have h48' : ¬ (281474976710656 < Builtin.nextslicecap (len + n) cap * i.bytes) := by omega
  unfold isSrc at hu
  cases hd : P.underlying u with
  | none => rw [hd] at hu; cases hu
  | some d =>
    rw [hd] at hu
    cases d <;> first | (simp at hu; done) | skip
    all_goals
      simp [Builtin.append_, run_underlying ht, run_underlying hd, sizeOf, typeInfo, zeroValue, hi, hz, hl, hn, h63', h48', Question.forced, hf, ho, newRow, grownCap]
      congr 2
      apply Array.ext'
      simp [List.append_assoc]
theorem hz_app {l l' : List Value} (k : VL r l l') (h1 : l.all (·.oneCell') = true) {zs : List Value} (hz : zs.all plain1 = true) {c : Array Value} (hc : c = (l' ++ zs).toArray) : ∀ i, i < c.size → ∃ v v', c[i]? = some v' ∧ v.oneCell' = true ∧ VR r v v' := fun i hi => by
  subst hc
  by_cases q : i < l'.length
  · obtain ⟨v, q1, q2⟩ := k.get' (List.getElem?_eq_getElem q)
    exact ⟨v, _, by simp [List.getElem?_append, q]; rfl, List.all_eq_true.1 h1 v (List.mem_of_getElem? q1), by simpa using q2⟩
  · have hi2 : i - l'.length < zs.length := by simp at hi; omega
    have hp := List.all_eq_true.1 hz _ (List.getElem_mem hi2)
    exact ⟨zs[i - l'.length], zs[i - l'.length], by simp [List.getElem?_append, q, hi2], oneCell_of_plain1 hp, VR.of_plain1 hp⟩
section ops
theorem s_ovl (R : Rel base r h w) (he : EnvR r e a.tmps) {c : Call} {o : Oper} {i : IOp} (ho : o.op = .call c) (hc : ovlC P c = some i) (E : opE i e h nm = some (v, h2)) : Stp base nm r h w v h2 ((execOp a.eval o).run P w) := by
  unfold ovlC at hc
  split at hc
  · rename_i f hcal
    split at hc
    · rename_i fn hfn
      split at hc
      · rename_i hcnd
        obtain ⟨n1, n2, n3, n4, n5, n6, n7⟩ := hcnd
        split at hc
        · rename_i t u rt x y hpar hres hargs
          split at hc
          · rename_i htu; subst htu
            split at hc
            · rename_i el hel
              split at hc
              · rename_i hsz; cases hc
                simp only [opE] at E
                split at E
                · rename_i pa n ca hx
                  split at E
                  · rename_i pb m cb hy
                    split at E
                    · rename_i A hA
                      split at E
                      · rename_i B hB
                        split at E
                        · rename_i hh; cases E
                          obtain ⟨c1, c2, c3, c4, c5, c6, c7⟩ := hh
                          obtain ⟨pa', ca', ex, g1, g2, _, g4⟩ := (ev_sound he hx).slice_inv
                          obtain ⟨qa, rfl, ga, _⟩ := g4 pa rfl
                          obtain ⟨pb', cb', ey, f1, f2, _, f4⟩ := (ev_sound he hy).slice_inv
                          obtain ⟨qb, rfl, fb, _⟩ := f4 pb rfl
                          obtain ⟨_, L, la, rfl⟩ := ga.resolve_right (by omega)
                          obtain ⟨_, M, lb, rfl⟩ := fb.resolve_right (by omega)
                          obtain ⟨L', cc, et, fz, a1, a2, a3, a4, a5, _⟩ := R.cells _ A hA
                          rw [la] at a1; cases a1
                          obtain ⟨M', cd, eu, fy, b1, b2, b3, b4, b5, _⟩ := R.cells _ B hB
                          rw [lb] at b1; cases b1
                          have hne : L.b ≠ M.b := R.inj _ _ A B L M hA hB c1 c2 la lb
                          have hz1 := (R.hid _ A L cc et fz hA c2 la a2).2
                          subst hz1
                          have hfn2 : Extern.findNext fn = none := by
                            unfold Extern.findNext
                            simp only [n3]
                            rw [show Extern.allNextRows.lookup "slices.overlaps" = none by kernel_rfl]
                            cases hq : Extern.allNextRows.lookup fn.name with
                            | none => rfl
                            | some z => rw [hq] at n4; cases n4
                          have hfi : Extern.find fn = some (Extern.SlicesOverlaps.overlaps fn.params fn.resultTypes) := by
                            unfold Extern.find
                            simp only [n3]
                            rw [show Extern.allGenericRows.lookup "slices.overlaps" = none by kernel_rfl, show Extern.allTypedRows.lookup "slices.overlaps" = some Extern.SlicesOverlaps.overlaps by kernel_rfl]
                            cases hq : Extern.allGenericRows.lookup fn.name with
                            | some z => rw [hq] at n5; cases n5
                            | none =>
                              cases hq2 : Extern.allTypedRows.lookup fn.name with
                              | some z => rw [hq2] at n6; cases n6
                              | none =>
                                cases hq3 : Extern.allRows.lookup fn.name with
                                | some z => rw [hq3] at n7; cases n7
                                | none => rfl
                          have hpar2 : fn.params = #[t, t] := by apply Array.ext'; simpa using hpar
                          have hres2 : fn.resultTypes = #[rt] := by apply Array.ext'; simpa using hres
                          obtain ⟨s, hs⟩ := Option.isSome_iff_exists.1 hsz
                          obtain ⟨i0, hi0, rfl⟩ := info_of_szOf hs
                          have hsa : w.shape? L.b = some (et, cc.size) := by simp [World.shape?, a2]
                          have hsb : w.shape? M.b = some (eu, cd.size) := by simp [World.shape?, b2]
                          have hrun := Go.Lib.run_overlaps_apart (P := P) w t rt el hel i0.size (run_sizeOf' hi0) ⟨L.b, L.o + pa.off, none⟩ ⟨M.b, M.o + pb.off, none⟩ n ca' m cb' hne et eu cc.size cd.size hsa hsb (by omega) (by simp [World.frozen?, a2]) (by simp [World.frozen?, a2])
                          refine Stp.pure' R (.bool false) ?_
                          have hargs2 : c.args = #[x, y] := by apply Array.ext'; simpa using hargs
                          have hcf : (callFunc f #[.slice (some ⟨L.b, L.o + pa.off, none⟩) n ca', .slice (some ⟨M.b, M.o + pb.off, none⟩) m cb']).run P w = .ok (.value (.bool false)) w := by
                            rw [run_callFunc_extern hfn n1 n2 hfn2 hfi, hpar2, hres2, hrun]; rfl
                          have e0 : a.eval (.func f) = .func (.func f) #[] #[] := rfl
                          simp [execOp, ho, resolve, hcal, hargs2, e0, ex, ey, Deferred.ofValue, invoke, hcf]
                        · cases E
                      · cases E
                    · cases E
                  · cases E
                · cases E
              · cases hc
            · cases hc
          · cases hc
        · cases hc
      · cases hc
    · cases hc
  · cases hc
theorem s_mkS (R : Rel base r h w) (he : EnvR r e a.tmps) (hnm : ∀ n, nm = some n → n < h.next ∧ r n = none) {t el : TypeId} {by_ : Nat} {z : List Value} {l c : Operand} {o : Oper} (ho : o.op = .makeSlice t l c) (ht : P.underlying t = some (.slice el)) (hz : zeroL P el = some z) (hb : bytesOf' P el = some by_)
    (E : opE (.mkS z.length by_ z l c) e h nm = some (v, h2)) : Stp base nm r h w v h2 ((execOp a.eval o).run P w) := by
  simp only [opE] at E
  split at E
  · rename_i kl li hl
    split at E
    · rename_i kc ci hc
      split at E
      · rename_i hh; cases E
        obtain ⟨i, zv, q1, q2, q3, q4, q5⟩ := zeroL_spec hz
        have hb2 : i.bytes = by_ := by unfold bytesOf' at hb; rw [q1] at hb; simpa using hb
        subst hb2
        have k1 := VR.int_inv (ev_sound he hl)
        have k2 := VR.int_inv (ev_sound he hc)
        have qs : zv.cells.size = i.size := by rw [← q5, ← q3]; simp
        have hmk : (madeCells zv.cells (ci.toNat * i.size)).toList = zrep z ci.toNat := by
          unfold madeCells; rw [← qs, zrep_array, q3]
        obtain ⟨r2, g1, g2, g3, g4⟩ := R.mkb (cs := zrep z ci.toNat) (c := madeCells zv.cells (ci.toNat * i.size)) (t := el) (es := z.length) (lim := (zrep z ci.toNat).length) hnm (Nat.le_refl _) (by rw [← hmk]; simp) (fun k y hy => by
          have hp := List.all_eq_true.1 (zrep_plain q4 ci.toNat) y (List.mem_of_getElem? hy)
          exact ⟨oneCell_of_plain1 hp, y, by rw [← hmk] at hy; simpa using hy, VR.of_plain1 hp⟩)
        refine ⟨r2, _, .slice (some ⟨w.heap.size, 0, none⟩) li.toNat ci.toNat, .inl ?_, .sl (.inl (AR.at g1 rfl)) (by omega) (by omega) (fun _ => by omega) (fun q => by omega), g2, g3, g4⟩
        have := run_make (P := P) w t el i zv ht q1 q2 kl kc li ci hh.1 hh.2.1 (by omega) (by omega)
        simp [execOp, ho, k1, k2, this]
      · cases E
    · cases E
  · cases E
theorem s_capV (R : Rel base r h w) (he : EnvR r e a.tmps) (hnm : ∀ n, nm = some n → n < h.next ∧ r n = none) {t el : TypeId} {x : Operand} {c : Call} {o : Oper} (ho : o.op = .call c) (hc : c.callee = .builtin .cap) (hx : c.args.toList = [x]) (hts : c.argTypes.toList = [t]) (ht : P.underlying t = some (.slice el))
    (E : opE (.capV x) e h nm = some (v, h2)) : Stp base nm r h w v h2 ((execOp a.eval o).run P w) := by
  simp only [opE] at E
  have hx : c.args = #[x] := by rw [← hx]
  have hts : c.argTypes = #[t] := by rw [← hts]
  split at E
  · rename_i p n cc hp
    split at E
    · rename_i hodd; cases E
      obtain ⟨p', c', k, _, _, _, g4⟩ := (ev_sound he hp).slice_inv
      have hcc : c' = cc / 2 := by
        cases p with
        | none =>
          have := ev_sound he hp
          generalize a.eval x = q at this
          cases this; simp at hodd
        | some q => obtain ⟨_, _, _, g6, _⟩ := g4 q rfl; exact g6 hodd
      refine Stp.pure' R (.int ..) ?_
      simp [execOp, ho, hc, hx, hts, resolve, invoke, builtin, Builtin.cap_, run_underlying ht, k, goInt, hcc]
    · cases E
  · cases E
theorem s_apz (R : Rel base r h w) (he : EnvR r e a.tmps) (hnm : ∀ n, nm = some n → n < h.next ∧ r n = none) {t u el : TypeId} {b : Nat} {z : List Value} {x y : Operand} {c : Call} {o : Oper} (ho : o.op = .call c) (hc : c.callee = .builtin .append) (hx : c.args.toList = [x, y]) (hts : c.argTypes.toList = [t, u]) (ht : P.underlying t = some (.slice el)) (hu : isIntT P u = true)
    (hb : bytesOf' P el = some b) (hz : zeroL P el = some z) (E : opE (.apz z b x y) e h nm = some (v, h2)) : Stp base nm r h w v h2 ((execOp a.eval o).run P w) := by
  have hx : c.args = #[x, y] := by rw [← hx]
  have hts : c.argTypes = #[t, u] := by rw [← hts]
  obtain ⟨i, zv, q1, q2, q3, q4, q5⟩ := zeroL_spec hz
  have hb2 : i.bytes = b := by unfold bytesOf' at hb; rw [q1] at hb; simpa using hb
  subst hb2
  obtain ⟨kn, htn⟩ : ∃ kn, P.underlying u = some (.int kn) := by
    unfold isIntT at hu; split at hu
    · exact ⟨_, by assumption⟩
    · cases hu
  have hrun : ∀ {res w2}, (Builtin.append_ #[t, u] o.type #[a.eval x, a.eval y]).run P w = .ok res w2 → (execOp a.eval o).run P w = .ok (.value res) w2 := fun {res w2} q => by
    simp [execOp, ho, hc, hx, hts, resolve, invoke, builtin, q]
  simp only [opE] at E
  split at E
  · rename_i p len cc hxv
    split at E
    · rename_i kq k hyv
      split at E
      · rename_i hcnd
        split at E
        · rename_i old hold; cases E
          obtain ⟨c1, c2, c3, c4, c5, c6⟩ := hcnd
          obtain ⟨p', c', e1, g1, g2, _, g4⟩ := (ev_sound he hxv).slice_inv
          obtain ⟨q', rfl, g5, g6, g7⟩ := g4 p rfl
          have hcc := g6 c2
          have ky := VR.int_inv (ev_sound he hyv)
          obtain ⟨m, hm⟩ : ∃ m : Nat, k = m := ⟨k.toNat, (Int.toNat_of_nonneg (Int.le_of_lt c1)).symm⟩
          subst hm
          have hm2 : ((m : Int)).toNat = m := Int.toNat_natCast m
          have hm0 : 0 < m := by omega
          have hzs : z.length = i.size := q5
          simp only [hm2, hzs] at c3 c4 c5 c6 hold ⊢
          have hz5 : len * i.size = 0 ∨ AR r p q' := by
            rcases g5 with g5 | g5
            · exact .inr g5
            · left; have : len = 0 := by omega
              rw [this, Nat.zero_mul]
          obtain ⟨old', o1, o2, o3, o4⟩ := lds_run (P := P) R hz5 hold
          have hfo : (Builtin.firstCells i.size len (.slice (some q') len c')).run P w.drew = .ok old'.toArray w.drew := by simpa [Builtin.firstCells] using o1 w.drew rfl
          have hgt : c' < len + m := by omega
          have hfit' := growslice_fits (bytes := i.bytes) hgt c6
          have hr := Go.Lib.run_append_grow_zeros w t u o.type el i zv kq kn ht htn q1 q2 (some q') len c' old' hfo m hm0 c4 hgt (by omega) (by
            have : m * i.bytes ≤ (len + m) * i.bytes := Nat.mul_le_mul_right _ (by omega)
            omega) (by omega)
          have hg := le_grownCap w (len + m) c' el
          have hzc : ∀ n, (Builtin.zeroCells zv.cells n).toList = zrep z n := fun n => by rw [zeroCells_list, q3]
          have hzl : ∀ n, (Builtin.zeroCells zv.cells n).size = n * i.size := fun n => by rw [← Array.length_toList, hzc, zrep_length, hzs]
          have hso : old'.length = len * i.size := by rw [← o2.1, o3]
          have hmul : (len + m) * i.size + (grownCap w (len + m) c' el - (len + m)) * i.size = grownCap w (len + m) c' el * i.size := by rw [← Nat.add_mul]; congr 1; omega
          have hsz : (old'.toArray ++ Builtin.zeroCells zv.cells m ++ Builtin.zeroCells zv.cells (grownCap w (len + m) c' el - (len + m))).size = grownCap w (len + m) c' el * i.size := by
            rw [Array.size_append, Array.size_append, hzl, hzl, List.size_toArray, hso, ← hmul, Nat.add_mul]
          have hle : (old ++ zrep z m).length ≤ grownCap w (len + m) c' el * i.size := by
            rw [List.length_append, o3, zrep_length, hzs, ← Nat.add_mul]; exact Nat.mul_le_mul_right _ hg
          have hpl := List.all_eq_true.1 (zrep_plain q4 m)
          have hall : (old ++ zrep z m).all (·.oneCell') = true := by
            rw [List.all_append, Bool.and_eq_true]
            exact ⟨List.all_eq_true.2 o4, List.all_eq_true.2 fun v hv => oneCell_of_plain1 (hpl v hv)⟩
          have hzz : VL r (zrep z m) (zrep z m) := ⟨rfl, fun i v v' e1 e2 => by rw [e1] at e2; cases e2; exact VR.of_plain1 (hpl v (List.mem_of_getElem? e1))⟩
          obtain ⟨r2, n1, n2, n3, n4⟩ := R.drew.mkbZ (nm := nm) (cs := old ++ zrep z m) (c := old'.toArray ++ Builtin.zeroCells zv.cells m ++ Builtin.zeroCells zv.cells (grownCap w (len + m) c' el - (len + m))) (t := el) (es := i.size) (lim := grownCap w (len + m) c' el * i.size) hnm hle (by rw [hsz]; exact Nat.le_refl _) (fun k y hy => by
            obtain ⟨p1, p2, p3, p4⟩ := (o2.append hzz).cells_of hall (Builtin.zeroCells zv.cells (grownCap w (len + m) c' el - (len + m))).toList k y hy
            refine ⟨p1, p2, ?_, p4⟩
            rw [← p3]; congr 1
            apply Array.ext'; simp [hzc]) (fun k hk => hz_app (o2.append hzz) hall (zs := (Builtin.zeroCells zv.cells (grownCap w (len + m) c' el - (len + m))).toList) (by rw [hzc]; exact zrep_plain q4 _) (by apply Array.ext'; simp [hzc]) k (by rw [hsz]; exact hk))
          refine ⟨r2, _, _, .inl (hrun (by rw [e1, ky]; exact hr)), .sl (.inl (AR.at n1 rfl)) hg (by omega) (fun q => by omega) (fun _ => ⟨_, n1, by simp⟩), n2, n3.drew', n4⟩
        · cases E
      · cases E
    · cases E
  · cases E
theorem s_app (R : Rel base r h w) (he : EnvR r e a.tmps) (hnm : ∀ n, nm = some n → n < h.next ∧ r n = none) {t u el : TypeId} {s b : Nat} {x y : Operand} {c : Call} {o : Oper} (ho : o.op = .call c) (hc : c.callee = .builtin .append) (hx : c.args.toList = [x, y]) (hts : c.argTypes.toList = [t, u]) (ht : P.underlying t = some (.slice el)) (hu : isSrc P u = true)
    (hs : szOf P el = some s) (hb : bytesOf' P el = some b) (hz : (zeroL P el).isSome = true) (E : opE (.app s b x y) e h nm = some (v, h2)) : Stp base nm r h w v h2 ((execOp a.eval o).run P w) := by
  have hx : c.args = #[x, y] := by rw [← hx]
  have hts : c.argTypes = #[t, u] := by rw [← hts]
  obtain ⟨z, hz⟩ := Option.isSome_iff_exists.1 hz
  obtain ⟨i, zv, q1, q2, q3, q4, q5⟩ := zeroL_spec hz
  have hs2 : i.size = s := by unfold szOf at hs; rw [q1] at hs; simpa using hs
  have hb2 : i.bytes = b := by unfold bytesOf' at hb; rw [q1] at hb; simpa using hb
  subst hs2 hb2
  have qs : zv.cells.size = i.size := by rw [← q5, ← q3]; simp
  have hrun : ∀ {res w2}, (Builtin.append_ #[t, u] o.type #[a.eval x, a.eval y]).run P w = .ok res w2 → (execOp a.eval o).run P w = .ok (.value res) w2 := fun {res w2} q => by
    simp [execOp, ho, hc, hx, hts, resolve, invoke, builtin, q]
  simp only [opE] at E
  split at E
  · rename_i xv hxv
    split at E
    · rename_i yv hyv
      have kx := ev_sound he hxv
      have ky := ev_sound he hyv
      unfold appE at E
      split at E
      · cases E
      · rename_i n hn
        split at E
        · cases E
        · rename_i src hsrc
          obtain ⟨src', l1, l2, l3, l4, l5⟩ := src_sound (P := P) R ky hn (Nat.le_refl _) hsrc
          have newrow : ∀ (B : Option Addr) (len cap : Nat) (old old' : List Value) (w0 : World) (hR : H), Rel base r hR w → hR.next = h.next → (∀ n, nm = some n → n < hR.next ∧ r n = none) → a.eval x = .slice B len cap → cap < len + n → VL r old old' → old.length = len * i.size → (∀ v ∈ old, v.oneCell' = true) → src.all (·.oneCell') = true →
              (Builtin.firstCells i.size len (.slice B len cap)).run P w.drew = .ok old'.toArray w.drew → len + n ≤ 4398046511104 → (len + n) * i.bytes ≤ 140737488355328 →
              ∃ r2 w2 v', (execOp a.eval o).run P w = .ok (.value v') w2 ∧ VR r2 (.slice (some ⟨(hR.mkb nm ⟨old ++ src, i.size, false⟩).1, 0, none⟩) (len + n) (2 * (len + n))) v' ∧ Rel base r2 (hR.mkb nm ⟨old ++ src, i.size, false⟩).2 w2 ∧ Fr base r hR w r2 (hR.mkb nm ⟨old ++ src, i.size, false⟩).2 w2 ∧ Fsh nm r hR r2 := by
            intro B len cap old old' w0 hR RR hnx hnm2 e1 hgt ho ho1 ho2 hs1 hfo h63 hfit
            have hr := run_append_out (P := P) (ty := o.type) ht hu q1 q2 l1 l3 hgt hfo h63 hfit
            have hg := le_grownCap w (len + n) cap el
            have hzc : (Builtin.zeroCells zv.cells (grownCap w (len + n) cap el - (len + n))).toList = zrep z (grownCap w (len + n) cap el - (len + n)) := by rw [zeroCells_list, q3]
            have hso : old'.length = len * i.size := by rw [← ho.1, ho1]
            have hss : src'.length = n * i.size := by rw [← l4.1, l5]
            have hmul : (len + n) * i.size + (grownCap w (len + n) cap el - (len + n)) * i.size = grownCap w (len + n) cap el * i.size := by rw [← Nat.add_mul]; congr 1; omega
            have hsz : (old'.toArray ++ src'.toArray ++ Builtin.zeroCells zv.cells (grownCap w (len + n) cap el - (len + n))).size = grownCap w (len + n) cap el * i.size := by
              have hzs : (Builtin.zeroCells zv.cells (grownCap w (len + n) cap el - (len + n))).size = (grownCap w (len + n) cap el - (len + n)) * i.size := by
                rw [← Array.length_toList, hzc, zrep_length, q5]
              rw [Array.size_append, Array.size_append, hzs, List.size_toArray, List.size_toArray, hso, hss, ← hmul, Nat.add_mul]
            have hle : (old ++ src).length ≤ grownCap w (len + n) cap el * i.size := by
              rw [List.length_append, ho1, l5, ← Nat.add_mul]; exact Nat.mul_le_mul_right _ hg
            have hall : (old ++ src).all (·.oneCell') = true := by
              rw [List.all_append, hs1, Bool.and_true]; exact List.all_eq_true.2 ho2
            obtain ⟨r2, g1, g2, g3, g4⟩ := RR.drew.mkbZ (nm := nm) (cs := old ++ src) (c := old'.toArray ++ src'.toArray ++ Builtin.zeroCells zv.cells (grownCap w (len + n) cap el - (len + n))) (t := el) (es := i.size) (lim := grownCap w (len + n) cap el * i.size) hnm2 hle (by rw [hsz]; exact Nat.le_refl _) (fun k y hy => by
              obtain ⟨p1, p2, p3, p4⟩ := (ho.append l4).cells_of hall (Builtin.zeroCells zv.cells (grownCap w (len + n) cap el - (len + n))).toList k y hy
              refine ⟨p1, p2, ?_, p4⟩
              rw [← p3]; congr 1
              apply Array.ext'; simp) (fun k hk => hz_app (ho.append l4) hall (zs := (Builtin.zeroCells zv.cells (grownCap w (len + n) cap el - (len + n))).toList) (by rw [hzc]; exact zrep_plain q4 _) (by apply Array.ext'; simp) k (by rw [hsz]; exact hk))
            refine ⟨r2, _, _, hrun (by rw [e1]; exact hr), .sl (.inl (AR.at g1 rfl)) hg (by omega) (fun q => by omega) (fun _ => ⟨_, g1, by simp⟩), g2, g3.drew', g4⟩
          split at E
          ·
            obtain ⟨p', c', e1, _, _, g3, _⟩ := kx.slice_inv
            obtain ⟨rfl, _, _, rfl⟩ := g3 rfl
            split at E
            · rename_i hn0; cases E; subst hn0
              have hsrc0 : src' = [] := by
                have := l4.1; rw [l5] at this; exact List.eq_nil_of_length_eq_zero (by omega)
              have := run_append_in (P := P) (ty := o.type) (w := w) (w2 := w) ht hu q1 (b := none) (len := 0) (cap := 0) l1 l2 (by omega) rfl
              exact Stp.pure' R .sl0 (hrun (by rw [e1]; exact this))
            · rename_i hn0
              split at E
              · rename_i hcnd; cases E
                obtain ⟨r2, w2, v', m1, m2, m3, m4, m5⟩ := newrow none 0 0 [] [] w h R rfl hnm e1 (by omega) (VL.nil r) (by simp) (fun v hv => by simp at hv) hcnd.2.2 (by simp [Builtin.firstCells]) (by omega) (by simpa using hcnd.1)
                simp only [List.nil_append, Nat.zero_add] at m2 m3 m4
                exact ⟨r2, w2, v', .inl m1, m2, m3, m4, m5⟩
              · cases E
          ·
            rename_i p len c
            obtain ⟨p', c', e1, g1, g2, _, g4⟩ := kx.slice_inv
            obtain ⟨q', rfl, g5, g6, g7⟩ := g4 p rfl
            simp only at E
            split at E
            · rename_i hin
              split at E
              · rename_i h3 hst; cases E
                have hAR : src = [] ∨ AR r ⟨p.block, p.off + len * i.size, none⟩ (q'.add (len * i.size)) := by
                  rcases g5 with ⟨s1, L, s2, rfl⟩ | g5
                  · right; exact ⟨rfl, L, s2, by rw [add_none, Nat.add_assoc]⟩
                  · left
                    have : n = 0 := by omega
                    rw [this] at l5; simpa using l5
                obtain ⟨w2, m1, m2, m3⟩ := sts_run (P := P) R hAR l4 hst
                have := run_append_in (P := P) (ty := o.type) (w := w) (w2 := w2) ht hu q1 (b := some q') (len := len) (cap := c') l1 l2 (by omega) m1
                exact ⟨r, w2, _, .inl (hrun (by rw [e1]; exact this)), .sl g5 (by omega) g2 g6 g7, m2, m3, Fsh.refl nm r h⟩
              · cases E
            · rename_i hout
              split at E
              · rename_i hcnd
                split at E
                · cases E
                · rename_i old hold
                  have hz5 : len * i.size = 0 ∨ AR r p q' := by
                    rcases g5 with g5 | g5
                    · exact .inr g5
                    · left; have : len = 0 := by omega
                      rw [this, Nat.zero_mul]
                  obtain ⟨old', o1, o2, o3, o4⟩ := lds_run (P := P) R hz5 hold
                  have hfo : (Builtin.firstCells i.size len (.slice (some q') len c')).run P w.drew = .ok old'.toArray w.drew := by simpa [Builtin.firstCells] using o1 w.drew rfl
                  split at E
                  · rename_i hodd; cases E
                    have hcc := g6 hodd
                    obtain ⟨r2, w2, v', m1, m2, m3, m4, m5⟩ := newrow (some q') len c' old old' w h R rfl hnm e1 (by omega) o2 o3 o4 hcnd.2.2 hfo hcnd.2.1 hcnd.1
                    exact ⟨r2, w2, v', .inl m1, m2, m3, m4, m5⟩
                  · rename_i hodd
                    split at E
                    · rename_i B hB
                      split at E
                      · rename_i hcB; cases E
                        obtain ⟨hro, hes, hsp⟩ := hcB
                        obtain ⟨RK, FK⟩ := Fr.kill (n := p.block) R
                        by_cases hcap : c' < len + n
                        · obtain ⟨r2, w2, v', m1, m2, m3, m4, m5⟩ := newrow (some q') len c' old old' w (h.set p.block none) RK rfl (fun n q => by cases q) e1 hcap o2 o3 o4 hcnd.2.2 hfo hcnd.2.1 hcnd.1
                          exact ⟨r2, w2, v', .inl m1, m2, m3, FK.trans m4, m5⟩
                        ·
                          obtain ⟨s1, L, s2, rfl⟩ := g5.resolve_right (by omega)
                          obtain ⟨L', cc, et, fz, n1, n2, n3, n4, n5, n6, n7⟩ := R.cells _ B hB
                          rw [s2] at n1; cases n1
                          obtain ⟨L', n1, n8⟩ := g7 (by omega)
                          rw [s2] at n1; cases n1
                          have hLe : L.es = i.size := n3.trans hes
                          rw [hLe] at n8
                          have hmul : len * i.size + n * i.size ≤ c' * i.size := by rw [← Nat.add_mul]; exact Nat.mul_le_mul_right _ (by omega)
                          have hl' : src'.length = n * i.size := by rw [← l4.1, l5]
                          obtain ⟨w2, c2, t1, t2, t3, t4⟩ := run_storeCells (P := P) src' 0 L.b (L.o + (p.off + len * i.size)) w cc et fz n2 (by omega) (fun v' hv' => by
                            obtain ⟨k, hk, rfl⟩ := List.getElem_of_mem hv'
                            obtain ⟨y, y1, y2⟩ := l4.get' (List.getElem?_eq_getElem hk)
                            rw [y2.oneCell]; exact List.all_eq_true.1 hcnd.2.2 y (List.mem_of_getElem? y1)) (fun k k1 k2 => (n6 hro).2 k (by omega) (by omega))
                          have hrn := run_append_in (P := P) (ty := o.type) (w := w) (w2 := w2) ht hu q1 (b := some ⟨L.b, L.o + p.off, none⟩) (len := len) (cap := c') l1 l2 (by omega) (by simp only; rw [add_none, Nat.add_assoc]; exact t1)
                          have hfresh : r h.next = none := R.new _ (Nat.le_refl _)
                          have hle : r.le (r.put h.next ⟨L.b, L.o + p.off, L.lim - p.off, i.size⟩) := Rho.le_put hfresh
                          have hlt := R.lt hB
                          have hold' : ∀ (k : Nat) (y : Value), old[k]? = some y → B.cells[p.off + k]? = some y ∧ k < len * i.size := fun k y hy => by
                            have hk : k < len * i.size := by rw [← o3]; exact (List.getElem?_eq_some_iff.1 hy).1
                            unfold H.lds at hold
                            rw [if_neg (by omega)] at hold
                            simp only [hsp, hB] at hold
                            split at hold
                            · cases hold
                              rw [List.getElem?_take, if_pos hk, List.getElem?_drop] at hy
                              exact ⟨hy, hk⟩
                            · cases hold
                          have hget : ∀ m Bm, ((h.set p.block none).alloc ⟨old ++ src, i.size, false⟩).get m = some Bm → (m = h.next ∧ Bm = ⟨old ++ src, i.size, false⟩) ∨ (m ≠ h.next ∧ m ≠ p.block ∧ h.get m = some Bm) := fun m Bm q => by
                            rw [H.get_alloc, H.get_set, H.next_set] at q
                            split at q
                            · rename_i e0; cases q; exact .inl ⟨e0, rfl⟩
                            · rename_i e0
                              split at q
                              · cases q
                              · rename_i e2; exact .inr ⟨e0, e2, q⟩
                          refine ⟨r.put h.next ⟨L.b, L.o + p.off, L.lim - p.off, i.size⟩, w2, _, .inl (hrun (by rw [e1]; exact hrn)), .sl (.inl ⟨rfl, _, Rho.put_same .., by simp⟩) (by omega) (by omega) (fun q => by omega) (fun _ => ⟨_, Rho.put_same .., by simp only; omega⟩), ?_, ?_, ?_⟩
                          · refine ⟨fun m Bm q => ?_, fun m k Bm Bk M N q1 q2 hne q3 q4 q5 => ?_, fun m hm => ?_, by rw [t2.size]; exact R.size, fun m Bm M q1 q2 q3 => ?_, fun m Bm M c9 e9 f9 q1 q2 q3 q4 => ?_⟩
                            · rcases hget m Bm q with ⟨rfl, rfl⟩ | ⟨d1, d2, d3⟩
                              · refine ⟨_, c2, et, fz, Rho.put_same .., t2.row, rfl, by simp only [List.length_append, o3, l5]; omega, by simp only; rw [t3]; omega, fun _ => ⟨(n6 hro).1, fun k k1 k2 => (n6 hro).2 k (by simp only at k1; omega) (by simp only at k2; omega)⟩, fun k y hy => ?_⟩
                                simp only at hy ⊢
                                rw [List.getElem?_append] at hy
                                rw [o3] at hy
                                split at hy
                                · rename_i hk
                                  obtain ⟨z1, z2, z3, z4⟩ := n7 _ y (hold' k y hy).1
                                  refine ⟨z1, z2, ?_, z4.mono hle⟩
                                  rw [t4, if_neg (by omega), Nat.add_assoc]; exact z3
                                · rename_i hk
                                  obtain ⟨y', y1, y2⟩ := l4.get hy
                                  have hb := (List.getElem?_eq_some_iff.1 y1).1
                                  refine ⟨List.all_eq_true.1 hcnd.2.2 y (List.mem_of_getElem? hy), y', ?_, y2.mono hle⟩
                                  rw [t4, if_pos (by omega), ← y1]; congr 1; omega
                              · obtain ⟨M, c0, t0, f0, z1, z2, z3, z4, z5, z6, z7⟩ := R.cells m Bm d3
                                refine ⟨M, c0, t0, f0, hle _ _ z1, ?_, z3, z4, z5, z6, fun k y hy => ?_⟩
                                · rw [t2.other _ (R.inj p.block m B Bm L M hB d3 (fun q => d2 q.symm) hro s2 z1).symm]; exact z2
                                · obtain ⟨x1, x2, x3, x4⟩ := z7 k y hy; exact ⟨x1, x2, x3, x4.mono hle⟩
                            · rcases hget m Bm q1 with ⟨rfl, rfl⟩ | ⟨d1, d2, d3⟩
                              · rcases hget k Bk q2 with ⟨rfl, _⟩ | ⟨f1, f2, f3⟩
                                · exact absurd rfl hne
                                · rw [Rho.put_same] at q4; cases q4
                                  rw [Rho.put_ne _ _ f1] at q5
                                  exact R.inj p.block k B Bk L N hB f3 (fun q => f2 q.symm) hro s2 q5
                              · rw [Rho.put_ne _ _ d1] at q4
                                rcases hget k Bk q2 with ⟨rfl, _⟩ | ⟨f1, f2, f3⟩
                                · rw [Rho.put_same] at q5; cases q5
                                  exact (R.inj p.block m B Bm L M hB d3 (fun q => d2 q.symm) hro s2 q4).symm
                                · rw [Rho.put_ne _ _ f1] at q5
                                  exact R.inj m k Bm Bk M N d3 f3 hne q3 q4 q5
                            · have : h.next + 1 ≤ m := hm
                              rw [Rho.put_ne _ _ (by omega)]; exact R.new m (by omega)
                            · rcases hget m Bm q1 with ⟨rfl, rfl⟩ | ⟨d1, d2, d3⟩
                              · cases q2
                              · rw [Rho.put_ne _ _ d1] at q3; exact R.ro m Bm M d3 q2 q3
                            · rcases hget m Bm q1 with ⟨rfl, rfl⟩ | ⟨d1, d2, d3⟩
                              · rw [Rho.put_same] at q3; cases q3
                                have q5 := t2.row
                                simp only at q4
                                rw [q5] at q4; cases q4
                                refine ⟨fun k hk => ?_, (R.hid _ B L cc et fz hB hro s2 n2).2⟩
                                simp only at hk ⊢
                                by_cases z : L.o + (p.off + len * i.size) ≤ L.o + p.off + k ∧ L.o + p.off + k < L.o + (p.off + len * i.size) + src'.length
                                · have hi : L.o + p.off + k - (L.o + (p.off + len * i.size)) < src'.length := by omega
                                  obtain ⟨y, y1, y2⟩ := l4.get' (List.getElem?_eq_getElem hi)
                                  exact ⟨_, y, _, by rw [t4, if_pos (by omega)]; exact List.getElem?_eq_getElem hi, List.all_eq_true.1 hcnd.2.2 y (List.mem_of_getElem? y1), y2.mono hle⟩
                                · obtain ⟨s, y, y', y1, y2, y3⟩ := (R.hid _ B L cc et fz hB hro s2 n2).1 (p.off + k) (by omega)
                                  exact ⟨s, y, y', by rw [t4, if_neg (by omega), Nat.add_assoc]; exact y1, y2, y3⟩
                              · rw [Rho.put_ne _ _ d1] at q3
                                rw [t2.other _ (R.inj p.block m B Bm L M hB d3 (fun q => d2 q.symm) hro s2 q3).symm] at q4
                                exact (R.hid m Bm M c9 e9 f9 d3 q2 q3 q4).mono hle
                          · refine ⟨hle, Nat.le_succ _, by rw [t2.size]; exact Nat.le_refl _, t2.os, t2.tape, t2.output, fun q hq hn => t2.other q fun e0 => hn p.block B L hB hro s2 e0.symm, fun m Bm M q1 q2 q3 q4 => ?_⟩
                            rcases hget m Bm q1 with ⟨rfl, rfl⟩ | ⟨d1, d2, d3⟩
                            · rw [Rho.put_same] at q3; cases q3; exact ⟨p.block, B, L, hB, hro, s2, rfl⟩
                            · rw [Rho.put_ne _ _ d1] at q3; exact ⟨m, Bm, M, d3, q2, q3, rfl⟩
                          · intro m hm _ hr; rw [Rho.put_ne _ _ (by omega)]; exact hr
                      · cases E
                    · cases E
              · cases E
          · cases E
    · cases E
  · cases E
theorem s_cpy (R : Rel base r h w) (he : EnvR r e a.tmps) (hnm : ∀ n, nm = some n → n < h.next ∧ r n = none) {t u el : TypeId} {s : Nat} {x y : Operand} {c : Call} {o : Oper} (ho : o.op = .call c) (hc : c.callee = .builtin .copy) (hx : c.args.toList = [x, y]) (hts : c.argTypes.toList = [t, u]) (ht : P.underlying t = some (.slice el))
    (hs : szOf P el = some s) (E : opE (.cpy s x y) e h nm = some (v, h2)) : Stp base nm r h w v h2 ((execOp a.eval o).run P w) := by
  have hx : c.args = #[x, y] := by rw [← hx]
  have hts : c.argTypes = #[t, u] := by rw [← hts]
  obtain ⟨i, hi, rfl⟩ := info_of_szOf hs
  simp only [opE] at E
  split at E
  · rename_i p n cc hp
    split at E
    · rename_i yv hyv
      split at E
      · rename_i m hm
        split at E
        · rename_i src hsrc
          obtain ⟨p', c', e1, g1, g2, g3, g4⟩ := (ev_sound he hp).slice_inv
          obtain ⟨src', l1, l2, l3, l4, l5⟩ := src_sound (P := P) R (ev_sound he hyv) hm (Nat.min_le_left m n) hsrc
          split at E
          · rename_i q
            split at E
            · rename_i h3 hst; cases E
              obtain ⟨q', rfl, g5, _⟩ := g4 q rfl
              have hAR : src = [] ∨ AR r q q' := by
                rcases g5 with g5 | g5
                · exact .inr g5
                · left
                  have h0 : n = 0 := by omega
                  subst h0
                  simp only [Nat.min_zero, Nat.zero_mul] at l5; exact List.eq_nil_of_length_eq_zero l5
              obtain ⟨w2, m1, m2, m3⟩ := sts_run (P := P) R hAR l4 hst
              refine ⟨r, w2, .int .i64 (Nat.min m n : Nat), .inl ?_, .int .., m2, m3, Fsh.refl nm r h⟩
              simp [execOp, ho, hc, hx, hts, resolve, invoke, builtin, Builtin.copy_, run_underlying ht, e1, l1, run_sizeOf' hi, l2, m1, goInt]
            · cases E
          · cases E
            obtain ⟨rfl, rfl, rfl, rfl⟩ := g3 rfl
            refine Stp.pure' R (.int ..) ?_
            have l2' : (Builtin.firstCells i.size 0 (a.eval y)).run P w = .ok src'.toArray w := by simpa using l2
            simp [execOp, ho, hc, hx, hts, resolve, invoke, builtin, Builtin.copy_, run_underlying ht, e1, l1, run_sizeOf' hi, l2', goInt]
        · cases E
      · cases E
    · cases E
  · cases E
theorem s_clr (R : Rel base r h w) (he : EnvR r e a.tmps) (hnm : ∀ n, nm = some n → n < h.next ∧ r n = none) {t el : TypeId} {z : List Value} {x : Operand} {c : Call} {o : Oper} (ho : o.op = .call c) (hc : c.callee = .builtin .clear) (hx : c.args.toList = [x]) (hts : c.argTypes.toList = [t]) (ht : P.underlying t = some (.slice el))
    (hz : zeroL P el = some z) (E : opE (.clr z.length z x) e h nm = some (v, h2)) : Stp base nm r h w v h2 ((execOp a.eval o).run P w) := by
  have hx : c.args = #[x] := by rw [← hx]
  have hts : c.argTypes = #[t] := by rw [← hts]
  obtain ⟨i, zv, q1, q2, q3, q4, q5⟩ := zeroL_spec hz
  simp only [opE] at E
  split at E
  · rename_i n cc hp; cases E
    obtain ⟨p', c', e1, g1, g2, g3, g4⟩ := (ev_sound he hp).slice_inv
    obtain ⟨rfl, _, _, rfl⟩ := g3 rfl
    refine Stp.pure' R (.tuple rfl (fun i v v' a _ => by simp at a)) (v' := .tuple #[]) ?_
    simp [execOp, ho, hc, hx, hts, resolve, invoke, builtin, Builtin.clear_, run_underlying ht, e1]
  · rename_i p n cc hp
    obtain ⟨p', c', e1, g1, g2, g3, g4⟩ := (ev_sound he hp).slice_inv
    obtain ⟨q', rfl, g5, _⟩ := g4 p rfl
    split at E
    · rename_i h0; subst h0; cases E
      refine Stp.pure' R (.tuple rfl (fun i v v' a _ => by simp at a)) (v' := .tuple #[]) ?_
      simp [execOp, ho, hc, hx, hts, resolve, invoke, builtin, Builtin.clear_, run_underlying ht, e1]
    · rename_i hn'
      split at E
      · rename_i h3 hst; cases E
        obtain ⟨m, rfl⟩ : ∃ m, n = m + 1 := ⟨n - 1, by omega⟩
        obtain ⟨w2, m1, m2, m3⟩ := sts_run (P := P) R (.inr (g5.resolve_right (by omega))) (VR.of_plainL (zrep_plain q4 (m + 1))) hst
        refine ⟨r, w2, .tuple #[], .inl ?_, .tuple rfl (fun i v v' a _ => by simp at a), m2, m3, Fsh.refl nm r h⟩
        have hzc : (Builtin.zeroCells zv.cells (m + 1)).toList = zrep z (m + 1) := by rw [zeroCells_list, q3]
        simp [execOp, ho, hc, hx, hts, resolve, invoke, builtin, Builtin.clear_, run_underlying ht, e1, run_zero' q1 q2, hzc, m1]
      · cases E
  · cases E
end ops
end Go.Proofs.Ytkfjlbdedjoojaa.Am
namespace Go.Proofs.Ytkfjlbdedjoojaa.Am
open Go
set_option linter.unusedVariables false
set_option linter.unusedSimpArgs false
variable {P : Program} {base : Nat} {r : Rho} {h h2 : H} {w : World} {e : Env} {a : Act} {nm : Option Nat} {v : Value}
theorem compOp_sound {i : IOp} {o : Oper} (hc : compOp P o.op = some i) (R : Rel base r h w) (he : EnvR r e a.tmps) (hnm : ∀ n, nm = some n → n < h.next ∧ r n = none)
    (E : opE i e h nm = some (v, h2)) : Stp base nm r h w v h2 ((execOp a.eval o).run P w) := by
  have aggT : ∀ {t fs}, P.underlying t = some (.struct fs) → isAggB P t = true := fun q => by simp [isAggB, q]
  have aggA : ∀ {t n el}, P.underlying t = some (.array n el) → isAggB P t = true := fun q => by simp [isAggB, q]
  cases ho : o.op <;> rw [ho] at hc <;> simp only [compOp] at hc <;> try (cases hc; done)
  case move x => cases hc; exact s_mov R he hnm (.inl ho) E
  case assign x => cases hc; exact s_mov R he hnm (.inr ho) E
  case pick c x y => cases hc; exact s_pick R he hnm ho E
  case alloc t =>
    split at hc
    · rename_i z hz; cases hc; exact s_new R he hnm ho hz E
    · cases hc
  case box t x => cases hc; exact s_box R he hnm ho E
  case build t ps =>
    split at hc
    · rename_i z hz
      split at hc
      · rename_i fs ht
        split at hc
        · rename_i hf
          split at hc
          · rename_i l hl; cases hc; exact s_buildS R he hnm ho hz ht hf hl E
          · cases hc
        · cases hc
      · rename_i n el ht
        split at hc
        · rename_i s hs; cases hc; exact s_buildA R he hnm ho hz ht hs E
        · cases hc
      · cases hc
    · cases hc
  case buildSlice t n ps =>
    split at hc
    · rename_i el ht
      split at hc
      · rename_i z hz
        split at hc
        · rename_i hle; cases hc; exact s_bsl R he hnm ho hz ht hle E
        · cases hc
      · cases hc
    · cases hc
  case load t x =>
    split at hc
    · rename_i n fs hs ht; cases hc; exact s_ldN R he hnm ho hs (aggT ht) E
    · rename_i n m el hs ht; cases hc; exact s_ldN R he hnm ho hs (aggA ht) E
    · rename_i n d h1 h2 hs ht; cases hc
      refine s_ld1 R he hnm ho ht ?_ E
      unfold isAggB; rw [ht]
      cases d <;> first | rfl | (exact absurd rfl (h1 _)) | (exact absurd rfl (h2 _ _))
    · cases hc
  case store t x y =>
    split at hc
    · rename_i n hs; cases hc; exact s_st R he hnm ho hs E
    · cases hc
  case nilCheck x => cases hc; exact s_nck R he hnm ho E
  case binOp op t x y u =>
    unfold compBin at hc
    split at hc
    · cases hc; exact s_bin R he hnm ho E
    · cases hc; exact s_bin R he hnm ho E
    · rename_i ht
      split at hc
      · cases hc; exact s_eqq1 R he hnm ho (.inl ⟨rfl, rfl⟩) ⟨rfl, ht⟩ E
      · cases hc; exact s_eqq1 R he hnm ho (.inr ⟨rfl, rfl⟩) ⟨rfl, ht⟩ E
      · cases hc
    · rename_i el ht
      split at hc
      · cases hc; exact s_eqqP R he hnm ho (.inl ⟨rfl, rfl⟩) ht E
      · cases hc; exact s_eqqP R he hnm ho (.inr ⟨rfl, rfl⟩) ht E
      · cases hc
    · rename_i el ht
      split at hc
      · cases hc; exact s_eqqV R he hnm ho (.inl ⟨rfl, rfl⟩) ht E
      · cases hc; exact s_eqqV R he hnm ho (.inr ⟨rfl, rfl⟩) ht E
      · cases hc
    · rename_i fs ht
      split at hc
      · rename_i hg
        split at hc
        · rename_i l hl; cases hc; exact s_eqqA R he hnm ho (.inl ⟨rfl, rfl⟩) (aggT ht) hg hl E
        · rename_i l hl; cases hc; exact s_eqqA R he hnm ho (.inr ⟨rfl, rfl⟩) (aggT ht) hg hl E
        · cases hc
      · cases hc
    · rename_i n el ht
      split at hc
      · rename_i hg
        split at hc
        · rename_i l hl; cases hc; exact s_eqqA R he hnm ho (.inl ⟨rfl, rfl⟩) (aggA ht) hg hl E
        · rename_i l hl; cases hc; exact s_eqqA R he hnm ho (.inr ⟨rfl, rfl⟩) (aggA ht) hg hl E
        · cases hc
      · cases hc
    · cases hc
  case unOp op t x => cases hc; exact s_un R he hnm ho E
  case convert s d x =>
    unfold compCv at hc
    split at hc
    · rename_i k1 k2 h1 hd; cases hc; exact s_cvI R he hnm ho h1 hd E
    · rename_i h1 hd; cases hc; exact s_cvS R he hnm ho h1 hd E
    · rename_i el hs hd
      split at hc
      · rename_i hel; cases hc; exact s_cvB R he hnm ho hs hel hd E
      · cases hc
    · cases hc
  case makeInterface t x =>
    split at hc
    · cases hc
    · rename_i d hn ht; cases hc; exact s_mkI R he hnm ho ht (fun m q => hn m q) E
    · cases hc
  case makeFunc fn x y => cases hc; exact s_mkF R he hnm ho E
  case makeSlice t l c =>
    split at hc
    · rename_i el ht
      split at hc
      · rename_i z b hz hb; cases hc; exact s_mkS R he hnm ho ht hz hb E
      · cases hc
    · cases hc
  case slice t x lo hi mx =>
    split at hc
    · rename_i ht
      split at hc
      · rename_i hm
        cases mx with
        | none => cases hc; exact s_slS R he hnm ho ht E
        | some m => cases hm
      · cases hc
    · rename_i el ht
      split at hc
      · rename_i s hs; cases hc; exact s_slV R he hnm ho ht hs E
      · cases hc
    · rename_i n el ht
      split at hc
      · rename_i s hs; cases hc; exact s_slA R he hnm ho ht hs E
      · cases hc
    · cases hc
  case fieldAddr t x k =>
    split at hc
    · rename_i fs ht
      split at hc
      · rename_i f hf
        split at hc
        · rename_i s hs
          split at hc
          · cases hc
          · rename_i h0; cases hc; exact s_fa R he hnm ho ht hf hs h0 E
        · cases hc
      · cases hc
    · cases hc
  case field t x k =>
    split at hc
    · rename_i fs ht
      split at hc
      · rename_i f hf
        split at hc
        · rename_i n gs hs hd; cases hc; exact s_fd R he hnm ho ht hf hs hd (.inr ⟨rfl, aggT hd⟩) E
        · rename_i n m el hs hd; cases hc; exact s_fd R he hnm ho ht hf hs hd (.inr ⟨rfl, aggA hd⟩) E
        · rename_i n d h1 h2 hs hd; cases hc
          refine s_fd R he hnm ho ht hf hs hd (.inl ⟨rfl, ?_⟩) E
          unfold isAggB; rw [hd]
          cases d <;> first | rfl | (exact absurd rfl (h1 _)) | (exact absurd rfl (h2 _ _))
        · cases hc
      · cases hc
    · cases hc
  case indexAddr t x j =>
    split at hc
    · rename_i el ht
      split at hc
      · rename_i s hs; cases hc; exact s_iaV R he hnm ho ht hs E
      · cases hc
    · rename_i n el ht
      split at hc
      · rename_i s hs; cases hc; exact s_iaA R he hnm ho ht hs E
      · cases hc
    · cases hc
  case index t x j =>
    split at hc
    · rename_i ht; cases hc; exact s_ixS R he hnm ho ht E
    · rename_i n el ht
      split at hc
      · rename_i s gs hs hd; cases hc; exact s_ixA R he hnm ho ht hs (aggT hd) hd E
      · rename_i s m el2 hs hd; cases hc; exact s_ixA R he hnm ho ht hs (aggA hd) hd E
      · rename_i s d h1 h2 hs hd; cases hc
        refine s_ixA R he hnm ho ht hs ?_ hd E
        unfold isAggB; rw [hd]
        cases d <;> first | rfl | (exact absurd rfl (h1 _)) | (exact absurd rfl (h2 _ _))
      · cases hc
    · cases hc
  case extract x k => cases hc; exact s_ext R he hnm ho E
  case call c =>
    split at hc
    · rename_i b hb
      unfold compB at hc
      split at hc
      · rename_i t x hts hx
        split at hc
        · rename_i ht; cases hc; exact s_lenS R he hnm ho hb hx hts ht E
        · rename_i el ht; cases hc; exact s_lenV R he hnm ho hb hx hts ht E
        · rename_i n el ht; cases hc; exact s_lenC R he hnm ho hb hx hts ht E
        · cases hc
      · rename_i t x hts hx
        split at hc
        · rename_i el ht; cases hc; exact s_capV R he hnm ho hb hx hts ht E
        · cases hc
      · rename_i ts x y hx; cases hc; exact s_mm (isMin := true) R he hnm ho hb hx E
      · rename_i ts x y hx; cases hc; exact s_mm (isMin := false) R he hnm ho hb hx E
      · rename_i t u x y hts hx
        split at hc
        · rename_i el ht
          split at hc
          · rename_i s b hs hb2 hz hu; cases hc; exact s_app R he hnm ho hb hx hts ht hu hs hb2 hz E
          · split at hc
            · rename_i b hb2 hz hu; cases hc; exact s_apz R he hnm ho hb hx hts ht hu hb2 hz E
            · cases hc
        · cases hc
      · rename_i t u x y hts hx
        split at hc
        · rename_i el ht
          split at hc
          · rename_i s hs; cases hc; exact s_cpy R he hnm ho hb hx hts ht hs E
          · cases hc
        · cases hc
      · rename_i t x hts hx
        split at hc
        · rename_i el ht
          split at hc
          · rename_i z hz; cases hc; exact s_clr R he hnm ho hb hx hts ht hz E
          · cases hc
        · cases hc
      · cases hc
    · exact s_ovl R he ho hc E
end Go.Proofs.Ytkfjlbdedjoojaa.Am
namespace Go.Proofs.Ytkfjlbdedjoojaa.Am
open Go
set_option linter.unusedVariables false
set_option linter.unusedSimpArgs false
inductive CK where
  | fn (f : Nat)
  | val (x : Operand)
  | inv (x : Operand) (tab : List (Nat × Nat))
inductive Step where
  | op (dst : Option Nat) (g : Option (Nat × Bool)) (i : IOp)
  | opA (dst : Option Nat) (g : Option (Nat × Bool)) (i : IOp) (k : Nat)
  | opR (dst : Option Nat) (g : Option (Nat × Bool)) (i : IOp) (k : Nat)
  | chk (dst : Nat) (g : Option (Nat × Bool)) (i : IOp)
  | call (dst : Option Nat) (g : Option (Nat × Bool)) (k : CK) (xs : List Operand)
inductive IC where
  | skip
  | ret
  | exit (id : Nat)
  | seq (a b : IC)
  | cond (c : Operand) (a b : IC)
  | block (id : Nat) (b : IC)
  | loop (keep : List Nat) (b : IC)
  | run (ss : List Step) (keep : List Nat)
  | draw (n : Nat) (ss : List Step) (keep : List Nat)
inductive RV where
  | tmp (t : Nat)
  | cell (t : Nat) (n : Option Nat)
structure IFun where
  np : Nat
  rs : List RV
  body : IC
inductive FD where
  | code (F : IFun)
  | spec (g : List Value → H → Option (Value × H))
inductive Ex where
  | norm
  | exit (id : Nat)
  | ret
abbrev CallE := Nat → List Value → H → Option (Value × H)
def put (e : Env) (d : Option Nat) (v : Value) : Env := match d with | none => e | some d => (d, v) :: e
def gd (e : Env) : Option (Nat × Bool) → Option Bool
  | none => some true
  | some (d, b) => match look e d with
    | some (.bool c) => some (c == b)
    | some (.tuple _) => some false
    | _ => none
def norm (keep : List Nat) (e : Env) : Env :=
  match keep with
  | [] => []
  | t :: ts => match look e t with
    | some v => (t, v) :: norm ts e
    | none => norm ts e
def addrOf (i : IOp) (e : Env) : Option Nat :=
  match i with
  | .ld1 x => match ev e x with | some (.pointer (some a)) => some a.block | _ => none
  | .ldN _ x => match ev e x with | some (.pointer (some a)) => some a.block | _ => none
  | .cvB x => match ev e x with | some (.slice (some a) _ _) => some a.block | _ => none
  | _ => none
def sameA (a b : Addr) : Bool := a.block == b.block && a.off == b.off && a.spot == b.spot
def same1 : Value → Value → Bool
  | .bool a, .bool b => a == b
  | .int k a, .int k' b => decide (k = k') && a == b
  | .string a, .string b => a.data.toList == b.data.toList
  | .pointer none, .pointer none => true
  | .pointer (some a), .pointer (some b) => sameA a b
  | .slice none n c, .slice none n' c' => n == n' && c == c'
  | .slice (some a) n c, .slice (some b) n' c' => sameA a b && n == n' && c == c'
  | .nilIface, .nilIface => true
  | .nilFunc, .nilFunc => true
  | _, _ => false
def sameL : List Value → List Value → Bool
  | [], [] => true
  | a :: x, b :: y => same1 a b && sameL x y
  | _, _ => false
def sameV (x y : Value) : Bool :=
  match x, y with
  | .agg a, .agg b => sameL a.toList b.toList
  | x, y => same1 x y
def findC : List (Nat × Nat) → Nat → Option Nat
  | [], _ => none
  | (t, f) :: l, n => if t = n then some f else findC l n
def whom (k : CK) (e : Env) (vs : List Value) : Option (Nat × List Value) :=
  match k with
  | .fn f => some (f, vs)
  | .val x => match ev e x with
    | some (.func (.func f) first cap) => some (f, first.toList ++ vs ++ cap.toList)
    | _ => none
  | .inv x tab => match ev e x with
    | some (.iface t v) => match findC tab t with
      | some f => some (f, v :: vs)
      | none => none
    | _ => none
def stepE (call : CallE) (rb : Nat) (s : Step) (e : Env) (h : H) : Option (Env × H) :=
  match s with
  | .op d g i => match gd e g with
    | some true => match opE i e h none with
      | some (v, h2) => some (put e d v, h2)
      | none => none
    | some false => some (put e d undef, h)
    | none => none
  | .opA d g i k => match gd e g with
    | some true => match opE i e h (some (rb + k)) with
      | some (v, h2) => some (put e d v, h2)
      | none => none
    | some false => some (put e d undef, h)
    | none => none
  | .opR d g i k => match gd e g with
    | some true => match addrOf i e with
      | some n => if n = rb + k then match opE i e h none with
        | some (v, _) => some (put e d v, h)
        | none => none else none
      | none => none
    | some false => some (put e d undef, h)
    | none => none
  | .chk d g i => match gd e g with
    | some true => match opE i e h none with
      | some (v, _) => match look e d with
        | some u => if sameV u v = true then some (e, h) else none
        | none => none
      | none => none
    | some false => some (e, h)
    | none => none
  | .call d g k xs => match gd e g with
    | some true => match evs e xs with
      | some vs => match whom k e vs with
        | some (f, us) => match call f us h with
          | some (v, h2) => some (put e d v, h2)
          | none => none
        | none => none
      | none => none
    | some false => some (put e d undef, h)
    | none => none
def stepsE (call : CallE) (rb : Nat) : List Step → Env → H → Option (Env × H)
  | [], e, h => some (e, h)
  | s :: ss, e, h => match stepE call rb s e h with
    | some (e2, h2) => stepsE call rb ss e2 h2
    | none => none
def loopE (body : Env → H → Option (Ex × Env × H)) (keep : List Nat) : Nat → Env → H → Option (Ex × Env × H)
  | 0, _, _ => none
  | n + 1, e, h => match body (norm keep e) h with
    | some (.norm, e2, h2) => loopE body keep n e2 h2
    | some (x, e2, h2) => some (x, e2, h2)
    | none => none
def codeE (call : CallE) (n : Nat) : IC → Env → H → Option (Ex × Env × H)
  | .skip, e, h => some (.norm, e, h)
  | .ret, e, h => some (.ret, e, h)
  | .exit id, e, h => some (.exit id, e, h)
  | .seq a b, e, h => match codeE call n a e h with
    | some (.norm, e2, h2) => codeE call n b e2 h2
    | some (x, e2, h2) => some (x, e2, h2)
    | none => none
  | .cond c a b, e, h => match ev e c with
    | some (.bool true) => codeE call n a e h
    | some (.bool false) => codeE call n b e h
    | _ => none
  | .block id b, e, h => match codeE call n b e h with
    | some (.exit j, e2, h2) => if j = id then some (.norm, e2, h2) else some (.exit j, e2, h2)
    | some (x, e2, h2) => some (x, e2, h2)
    | none => none
  | .loop keep b, e, h => loopE (codeE call n b) keep n e h
  | .run ss keep, e, h => match stepsE call 0 ss e h with
    | some (e2, h2) => some (.norm, norm keep e2, h2)
    | none => none
  | .draw m ss keep, e, h => match stepsE call h.next ss e (h.up m) with
    | some (e2, h2) => some (.norm, norm keep e2, h2)
    | none => none
def resE : List RV → Env → H → Option (List Value)
  | [], _, _ => some []
  | .tmp t :: rs, e, h => match look e t with
    | some v => match resE rs e h with
      | some vs => some (v :: vs)
      | none => none
    | none => none
  | .cell t n :: rs, e, h => match look e t with
    | some (.pointer (some a)) => match (match n with | none => h.ld a | some n => match h.lds a n with | some vs => some (.agg vs.toArray) | none => none) with
      | some v => match resE rs e h with
        | some vs => some (v :: vs)
        | none => none
      | none => none
    | _ => none
def packE : List Value → Value
  | [v] => v
  | vs => .tuple vs.toArray
def mkEnv : Nat → List Value → Env
  | _, [] => []
  | k, v :: vs => (k, v) :: mkEnv (k + 1) vs
def runE (tab : Nat → Option FD) : Nat → CallE
  | 0, _, _, _ => none
  | n + 1, f, us, h => match tab f with
    | some (.code F) => if us.length = F.np then match codeE (runE tab n) n F.body (mkEnv 0 us) h with
      | some (.norm, e2, h2) => match resE F.rs e2 h2 with
        | some vs => some (packE vs, h2)
        | none => none
      | some (.ret, e2, h2) => match resE F.rs e2 h2 with
        | some vs => some (packE vs, h2)
        | none => none
      | _ => none else none
    | some (.spec g) => g us h
    | none => none
inductive DI where
  | op (i : Nat)
  | opA (i : Nat)
  | opR (i k : Nat)
  | chk (i : Nat)
inductive Hint where
  | keep (l : List Nat)
  | draw (o : List DI) (l : List Nat)
def mtab (P : Program) (name : String) : List (Nat × Nat) :=
  (List.range P.types.size).filterMap fun t => match P.info? t with
    | some i => match i.methods.find? (·.name == name) with
      | some m => match m.func with
        | some (f, true) => if m.path.isEmpty then (match P.underlying t with | some (.pointer _) => some (t, f) | _ => none) else none
        | _ => none
      | none => none
    | none => none
def guardC (ops : Array Oper) (o : Oper) : Option (Option (Nat × Bool)) :=
  match o.guard with
  | none => some none
  | some (j, b) => match ops[j]? with
    | some p => match p.dst with
      | some d => some (some (d, b))
      | none => none
    | none => none
def okDst (N : Nat) : Option Nat → Bool
  | none => true
  | some d => decide (d < N)
def callC (P : Program) (c : Call) : Option CK :=
  match c.callee with
  | .value (.func f) => some (.fn f)
  | .value x => some (.val x)
  | .invoke x name => some (.inv x (mtab P name))
  | .builtin _ => none
def isCallO (P : Program) (o : Oper) : Option Call :=
  match o.op with
  | .call c => match c.callee with | .builtin _ => none | _ => if (ovlC P c).isSome = true then none else some c
  | _ => none
def methOf : List Oper → Nat → Option String
  | [], _ => none
  | o :: os, t => if o.dst = some t then match o.op with
    | .makeFunc (.method n) _ _ => some n
    | _ => none else methOf os t
def nckC (P : Program) (ops : Array Oper) (o : Op) : Option IOp :=
  match o with
  | .nilCheck (.tmp t) => match methOf ops.toList t with
    | some n => some (.nckM n ((mtab P n).map (·.1)) (.tmp t))
    | none => some (.nck (.tmp t))
  | _ => some ((compOp P o).getD .bad)
def compStep (P : Program) (N : Nat) (ops : Array Oper) (o : Oper) : Option Step :=
  if okDst N o.dst = true then match guardC ops o with
    | some g => match isCallO P o with
      | some c => match callC P c with
        | some k => some (.call o.dst g k c.args.toList)
        | none => none
      | none => match nckC P ops o.op with
        | some i => some (.op o.dst g i)
        | none => none
    | none => none
  else none
def compSteps (P : Program) (N : Nat) (ops : Array Oper) : List Oper → Option (List Step)
  | [] => some []
  | o :: os => match compStep P N ops o with
    | some s => match compSteps P N ops os with
      | some ss => some (s :: ss)
      | none => none
    | none => none
def compDI (P : Program) (N : Nat) (ops : Array Oper) : List DI → Option (List Step)
  | [] => some []
  | d :: ds => match compDI P N ops ds with
    | none => none
    | some ss => match d with
      | .op i => match ops[i]? with
        | some o => match compStep P N ops o with
          | some s => some (s :: ss)
          | none => none
        | none => none
      | .opA i => match ops[i]? with
        | some o => match compStep P N ops o with
          | some (.op d g j) => some (.opA d g j i :: ss)
          | _ => none
        | none => none
      | .opR i k => match ops[i]? with
        | some o => match compStep P N ops o with
          | some (.op d g j) => some (.opR d g j k :: ss)
          | _ => none
        | none => none
      | .chk i => match ops[i]? with
        | some o => match compStep P N ops o with
          | some (.op (some d) g j) => some (.chk d g j :: ss)
          | _ => none
        | none => none
def tO : Operand → List Nat
  | .tmp t => [t]
  | _ => []
def tOp : Option Operand → List Nat
  | some x => tO x
  | none => []
def tL : List Operand → List Nat
  | [] => []
  | x :: xs => tO x ++ tL xs
def tP : List (Nat × Nat × Operand) → List Nat
  | [] => []
  | (_, _, x) :: xs => tO x ++ tP xs
def tI : IOp → List Nat
  | .mov x | .box x | .ld1 x | .ldN _ x | .nck x | .nckM _ _ x | .un _ x | .cvI _ x | .cvS x | .cvB x | .mkI _ x | .fa _ x | .fd _ _ x | .ext x _ | .lenS x | .lenV x | .clr _ _ x | .capV x => tO x
  | .pick c a b => tO c ++ (tO a ++ tO b)
  | .new _ | .lenC _ | .bad => []
  | .build _ ps | .bsl _ _ _ ps => tP ps
  | .ovl x y | .st _ x y | .bin _ x y | .eqq _ _ x y | .mkS _ _ _ x y | .iaV _ x y | .iaA _ _ x y | .ixS x y | .ixA _ _ _ x y | .mm _ x y | .app _ _ x y | .apz _ _ x y | .cpy _ x y => tO x ++ tO y
  | .mkF _ fs cs => tL fs ++ tL cs
  | .slS x lo hi => tO x ++ (tOp lo ++ tOp hi)
  | .slV _ x lo hi mx | .slA _ _ x lo hi mx => tO x ++ (tOp lo ++ (tOp hi ++ tOp mx))
def kI : IOp → Nat
  | .ld1 _ | .ldN _ _ | .cvB _ | .slV _ _ _ _ _ | .ovl _ _ => 1
  | .new _ | .box _ | .bsl _ _ _ _ | .mkS _ _ _ _ _ => 2
  | .st _ _ _ | .app _ _ _ _ | .apz _ _ _ _ | .cpy _ _ _ | .clr _ _ _ => 3
  | _ => 0
def tG : Option (Nat × Bool) → List Nat
  | none => []
  | some (d, _) => [d]
def tC : CK → List Nat
  | .fn _ => []
  | .val x => tO x
  | .inv x _ => tO x
def tS : Step → List Nat
  | .op _ g i => tG g ++ tI i
  | .opA _ g i _ => tG g ++ tI i
  | .opR _ g i _ => tG g ++ tI i
  | .chk d g i => tG g ++ tI i
  | .call _ g k xs => tG g ++ (tC k ++ tL xs)
def dS : Step → Option Nat
  | .op d _ _ => d
  | .opA d _ _ _ => d
  | .opR d _ _ _ => d
  | .chk _ _ _ => none
  | .call d _ _ _ => d
structure It where
  i : Nat
  k : Nat
  q : Nat
  s : Step
def itOf (d : DI) (s : Step) : Option It :=
  match d, s with
  | .op i, .op d g j => if kI j = 2 then none else some ⟨i, kI j, 0, .op d g j⟩
  | .op i, .call d g c xs => some ⟨i, 3, 0, .call d g c xs⟩
  | .opA i, .opA d g j m => if kI j = 2 then some ⟨i, 2, 0, .opA d g j m⟩ else none
  | .opR i q, .opR d g j m => if kI j = 1 then some ⟨i, 4, q, .opR d g j m⟩ else none
  | .chk i, .chk d g j => some ⟨i, 5, 0, .chk d g j⟩
  | _, _ => none
def itsOf : List DI → List Step → Option (List It)
  | [], [] => some []
  | d :: ds, s :: ss => match itOf d s with
    | some x => match itsOf ds ss with
      | some xs => some (x :: xs)
      | none => none
    | none => none
  | _, _ => none
def befs (ops : Array Oper) : Array Nat := Region.before ops
def isBef (b : Array Nat) (i j : Nat) : Bool := (b.getD j 0).testBit i
def apartS (x y : Step) : Bool :=
  (match dS x with
   | some d => !(tS y).contains d && dS y != some d
   | none => true) &&
  (match dS y with
   | some d => !(tS x).contains d
   | none => true)
def pairOK (b : Array Nat) (x y : It) : Bool :=
  x.k == 5 || y.k == 5 ||
  (x.i != y.i && !isBef b y.i x.i && (isBef b x.i y.i || apartS x.s y.s) &&
    (!((x.k == 3 && y.k == 3) || (x.k == 2 && y.k == 3) || (x.k == 3 && y.k == 1) || (x.k == 2 && y.k == 1)) || isBef b x.i y.i) &&
    (!(x.k == 1) || (match dS y.s with | some d => !(tS x.s).contains d && dS x.s != some d | none => true)) &&
    (!(y.k == 4 && x.k == 3) || !isBef b y.q x.i || isBef b y.i x.i) &&
    (!(x.k == 4 && y.k == 3) || !isBef b x.q y.i || isBef b x.i y.i))
def pairsOK (b : Array Nat) : List It → Bool
  | [] => true
  | x :: xs => xs.all (pairOK b x) && pairsOK b xs
def chkIn (i : Nat) : List It → Bool
  | [] => false
  | y :: ys => y.k == 5 && (y.i == i || chkIn i ys)
def chksOK (b : Array Nat) : List It → List It → Bool
  | _, [] => true
  | pre, y :: ys => (!(y.k == 3) || pre.all fun x => !(x.k == 1) || isBef b x.i y.i || chkIn x.i ys) && chksOK b (y :: pre) ys
def itemOK (b : Array Nat) (n : Nat) (its : List It) (x : It) : Bool :=
  x.i < n && (!(x.k == 1) || (match dS x.s with | some d => !(tS x.s).contains d | none => true)) && (!(x.k == 4) || (isBef b x.q x.i && its.any fun y => y.k == 2 && y.i == x.q))
def edgesOK (ops : Array Oper) : Bool := (List.range ops.size).all fun i => match ops[i]? with
  | some o => o.after.toList.all fun e => !Region.binds .any e || decide (e.on < i)
  | none => false
def okDraw (P : Program) (N : Nat) (ops : Array Oper) (ds : List DI) (ss : List Step) : Bool :=
  match itsOf ds ss with
  | some its => let b := befs ops
    edgesOK ops && pairsOK b its && chksOK b [] its && its.all (itemOK b ops.size its) && (List.range ops.size).all fun i => its.any fun x => x.k != 5 && x.i == i
  | none => false
def comp (P : Program) (N : Nat) : Code → List Hint → Option (IC × List Hint)
  | .skip, hs => some (.skip, hs)
  | .ret, hs => some (.ret, hs)
  | .exit id, hs => some (.exit id, hs)
  | .seq a b, hs => match comp P N a hs with
    | some (x, hs) => match comp P N b hs with
      | some (y, hs) => some (.seq x y, hs)
      | none => none
    | none => none
  | .cond c a b, hs => match comp P N a hs with
    | some (x, hs) => match comp P N b hs with
      | some (y, hs) => some (.cond c x y, hs)
      | none => none
    | none => none
  | .block id b, hs => match comp P N b hs with
    | some (x, hs) => some (.block id x, hs)
    | none => none
  | .loop b, hs => match hs with
    | .keep l :: hs => match comp P N b hs with
      | some (x, hs) => some (.loop l x, hs)
      | none => none
    | _ => none
  | .region _ ops false, hs => match hs with
    | .keep l :: hs => match compSteps P N ops ops.toList with
      | some ss => some (.run ss l, hs)
      | none => none
    | _ => none
  | .region _ ops true, hs => match hs with
    | .draw ds l :: hs => match compDI P N ops ds with
      | some ss => if okDraw P N ops ds ss = true then some (.draw ops.size ss l, hs) else none
      | none => none
    | _ => none
  | _, _ => none
def compRV (P : Program) (r : ResultVar) : Option RV :=
  match r with
  | .tmp t => some (.tmp t)
  | .cell t ty => match szOf P ty, P.underlying ty with
    | some n, some (.struct _) => some (.cell t (some n))
    | some n, some (.array _ _) => some (.cell t (some n))
    | some _, some _ => some (.cell t none)
    | _, _ => none
def compRVs (P : Program) : List ResultVar → Option (List RV)
  | [] => some []
  | r :: rs => match compRV P r with
    | some x => match compRVs P rs with
      | some xs => some (x :: xs)
      | none => none
    | none => none
def compF (P : Program) (f : Nat) (hs : List Hint) : Option IFun :=
  match P.funcs[f]? with
  | some fn => if (fn.name == "runtime.NumGoroutine") = false ∧ fn.params.size + fn.nfree ≤ fn.ntmps then match fn.body with
    | some c => match comp P fn.ntmps c hs with
      | some (x, []) => match compRVs P fn.results.toList with
        | some rs => some ⟨fn.params.size + fn.nfree, rs, x⟩
        | none => none
      | _ => none
    | none => none else none
  | none => none
end Go.Proofs.Ytkfjlbdedjoojaa.Am
namespace Go.Proofs.Ytkfjlbdedjoojaa.Am
open Go
set_option linter.unusedVariables false
set_option linter.unusedSimpArgs false
variable {P : Program} {base : Nat} {r : Rho} {h h2 : H} {w : World} {e : Env} {a : Act} {nm : Option Nat} {v : Value}
def Post (base : Nat) (r : Rho) (h : H) (w : World) (v : Value) (h2 : H) : Ending → World → Prop := fun x w2 =>
  ∃ r2 v', x = .returned v' ∧ VR r2 v v' ∧ Rel base r2 h2 w2 ∧ Fr base r h w r2 h2 w2 ∧ Fsh none r h r2
def callable (P : Program) (f : Nat) : Prop := ∃ fn, P.funcs[f]? = some fn ∧ (fn.name == "runtime.NumGoroutine") = false ∧ fn.body.isNone = false
def SoundF (P : Program) (f : Nat) (g : List Value → H → Option (Value × H)) : Prop :=
  ∀ (base : Nat) (r : Rho) (h : H) (w : World) (us us' : List Value) (v : Value) (h2 : H), g us h = some (v, h2) → VL r us us' → Rel base r h w → callable P f ∧ Calls P f us'.toArray w (Post base r h w v h2)
def SoundC (P : Program) (call : CallE) : Prop := ∀ f, SoundF P f (call f)
theorem EnvR.put (he : EnvR r e a.tmps) {d : Option Nat} {v v' : Value} (k : VR r v v') (hd : okDst a.tmps.size d = true) : EnvR r (Am.put e d v) (a.put d v').tmps := by
  cases d with
  | none => exact he
  | some d =>
    intro t u hu
    simp only [Am.put, look] at hu
    simp only [okDst, decide_eq_true_eq] at hd
    simp only [Act.put]
    split at hu
    · rename_i e1; subst e1; cases hu
      exact ⟨v', by rw [Array.getElem?_setIfInBounds_self_of_lt hd], k⟩
    · rename_i e1
      obtain ⟨u', q1, q2⟩ := he t u hu
      exact ⟨u', by rw [Array.getElem?_setIfInBounds_ne e1]; exact q1, q2⟩
theorem size_put (a : Act) (d : Option Nat) (v : Value) : (a.put d v).tmps.size = a.tmps.size := by cases d <;> simp [Act.put]
theorem defers_put (a : Act) (d : Option Nat) (v : Value) : (a.put d v).defers = a.defers := by cases d <;> rfl
theorem VR.undef : VR r undef undef := .tuple rfl (fun i v v' a _ => by simp at a)
theorem norm_sound {ts : Array Value} (he : EnvR r e ts) : ∀ (keep : List Nat), EnvR r (norm keep e) ts := by
  intro keep
  induction keep with
  | nil => intro t u hu; simp [norm, look] at hu
  | cons t keep ih =>
    intro t' u hu
    simp only [norm] at hu
    split at hu
    · rename_i v hv
      simp only [look] at hu
      split at hu
      · rename_i e1; subst e1; cases hu; exact he _ _ hv
      · exact ih t' u hu
    · exact ih t' u hu
theorem gd_sound (he : EnvR r e a.tmps) {ops : Array Oper} {o : Oper} {g : Option (Nat × Bool)} {c : Bool} (hg : guardC ops o = some g) (hc : gd e g = some c) : Region.wanted o (yielded ops a.tmps) = c := by
  unfold guardC at hg
  split at hg
  · rename_i hn; cases hg; simp only [gd] at hc; cases hc; simp [Region.wanted, hn]
  · rename_i j b hj
    split at hg
    · rename_i p hp
      split at hg
      · rename_i d hd; cases hg
        simp only [gd] at hc
        split at hc
        · rename_i c' hl; cases hc
          obtain ⟨v', q1, q2⟩ := he _ _ hl
          rw [VR.bool_inv q2] at q1
          simp only [Region.wanted, hj, yielded, hp, Option.bind_some, hd, q1]
          cases c' <;> cases b <;> rfl
        · rename_i x hl; cases hc
          obtain ⟨v', q1, q2⟩ := he _ _ hl
          cases q2
          simp [Region.wanted, hj, yielded, hp, Option.bind_some, hd, q1]
        · cases hc
      · cases hg
    · cases hg
theorem mtab_spec {name : String} {t f : Nat} (h : (t, f) ∈ mtab P name) : ∃ i m el, P.info? t = some i ∧ i.methods.find? (·.name == name) = some m ∧ m.path = #[] ∧ m.func = some (f, true) ∧ P.underlying t = some (.pointer el) := by
  unfold mtab at h
  rw [List.mem_filterMap] at h
  obtain ⟨t', ht', h⟩ := h
  split at h
  · rename_i i hi
    split at h
    · rename_i m hm
      split at h
      · rename_i g hg
        split at h
        · rename_i hp
          split at h
          · rename_i el hel; cases h
            exact ⟨i, m, el, hi, hm, by simpa using hp, hg, hel⟩
          · cases h
        · cases h
      · cases h
    · cases h
  · cases h
theorem findC_mem : ∀ {l : List (Nat × Nat)} {t f : Nat}, findC l t = some f → (t, f) ∈ l := by
  intro l
  induction l with
  | nil => intro t f h; cases h
  | cons p l ih =>
    intro t f h
    obtain ⟨a, b⟩ := p
    simp only [findC] at h
    split at h
    · rename_i e; subst e; cases h; exact List.mem_cons_self ..
    · exact List.mem_cons_of_mem _ (ih h)
theorem fuel_pos (P : Program) : ∃ k, P.types.size + Made.depth = k + 1 := ⟨P.types.size + 99, rfl⟩
theorem nckC_sound {ops : Array Oper} {i : IOp} {o : Oper} (hc : nckC P ops o.op = some i) (R : Rel base r h w) (he : EnvR r e a.tmps) (hnm : ∀ n, nm = some n → n < h.next ∧ r n = none)
    (E : opE i e h nm = some (v, h2)) : Stp base nm r h w v h2 ((execOp a.eval o).run P w) := by
  unfold nckC at hc
  split at hc
  · rename_i t ho
    split at hc
    · rename_i name hn; cases hc
      simp only [opE] at E
      split at E
      · rename_i m first cap hx
        split at E
        · rename_i em; subst em
          split at E
          · rename_i ty u hf
            split at E
            · rename_i ht; cases E
              have k := ev_sound he hx
              refine Stp.pure' R k ?_
              generalize hq : a.eval (.tmp t) = q at k
              cases k with
              | func _ hx1 h1 hy1 h2 =>
                rename_i first' cap'
                have hlt : 0 < first'.size := by rw [← hx1]; exact (Array.getElem?_eq_some_iff.1 hf).1
                have hv := h1 0 _ _ hf (Array.getElem?_eq_getElem hlt)
                obtain ⟨u', hu'⟩ : ∃ u', first'[0] = .iface ty u' := by
                  generalize first'[0] = z at hv; cases hv; exact ⟨_, rfl⟩
                rw [List.contains_iff_mem, List.mem_map] at ht
                obtain ⟨p, hp, hp2⟩ := ht
                obtain ⟨p1, p2⟩ := p
                simp only at hp2; subst hp2
                obtain ⟨i, mt, el, g1, g2, g3, g4, g5⟩ := mtab_spec hp
                obtain ⟨k, hk⟩ := fuel_pos P
                have hna : (nilAhead (P.types.size + Made.depth) p1 u' m).run P w = .ok (some false) w := by
                  rw [hk]; simp [nilAhead, typeInfo, g1, g2, g3, g4, followBlind]
                have hf' : (first'[0]? : Option Value) = some (.iface p1 u') := by rw [Array.getElem?_eq_getElem hlt, hu']
                simp [execOp, ho, hq, hf', hna]
            · cases E
          · cases E
        · cases E
      · cases E
    · cases hc; exact s_nck R he hnm ho E
  · cases hco : compOp P o.op with
    | none => rw [hco] at hc; cases hc; cases E
    | some j => rw [hco] at hc; cases hc; exact compOp_sound hco R he hnm E
theorem op_wp {o : Oper} {K : Act → World → Prop} {Q : Exit → Act → World → Prop} (s : Stp base nm r h w v h2 ((execOp a.eval o).run P w))
    (k : ∀ r2 w2 v', VR r2 v v' → Rel base r2 h2 w2 → Fr base r h w r2 h2 w2 → Fsh nm r h r2 → K (a.put o.dst v') w2) : o.wp P a w K Q := by
  obtain ⟨r2, w2, v', hres, g1, g2, g3, g4⟩ := s
  unfold Oper.wp
  rcases hres with hres | ⟨hres, rfl⟩
  · rw [hres]; exact k r2 w2 v' g1 g2 g3 g4
  · rw [hres]; exact k r2 w2 undef g1 g2 g3 g4
theorem run_callFunc {f : Nat} (hf : callable P f) (us : Array Value) (w : World) : (callFunc f us).run P w = .ok (.enter f us) w := by
  obtain ⟨fn, h1, h2, h3⟩ := hf
  simp only [callFunc, Sem.run_bind, run_program, Result.andThen_ok, h1, h2, h3, Bool.false_eq_true, if_false]; rfl
theorem VL.ofArr {x x' : Array Value} (hx : x.size = x'.size) (h1 : ∀ (i : Nat) (v v' : Value), x[i]? = some v → x'[i]? = some v' → VR r v v') : VL r x.toList x'.toList :=
  ⟨by simpa using hx, fun i v v' p q => h1 i v v' (by simpa using p) (by simpa using q)⟩
theorem call_sound {c : Call} {o : Oper} {k : CK} (ho : o.op = .call c) (hk : callC P c = some k) (he : EnvR r e a.tmps) {vs us : List Value} {f : Nat} (hv : evs e c.args.toList = some vs) (hw : whom k e vs = some (f, us)) (hf : callable P f) :
    ∃ us', (execOp a.eval o).run P w = .ok (.enter f us'.toArray) w ∧ VL r us us' := by
  have kv := evs_sound he hv
  unfold callC at hk
  split at hk
  · rename_i g hc; cases hk
    simp only [whom] at hw; cases hw
    refine ⟨c.args.toList.map a.eval, ?_, kv⟩
    have e1 : (c.args.toList.map a.eval).toArray = c.args.map a.eval := by apply Array.ext'; simp
    simp [execOp, ho, resolve, hc, Act.eval, Deferred.ofValue, invoke, run_callFunc hf, e1]
  · rename_i x hx hc; cases hk
    simp only [whom] at hw
    split at hw
    · rename_i g first cap hxv; cases hw
      have kx := ev_sound he hxv
      generalize hq : a.eval x = q at kx
      cases kx with
      | func _ hx1 h1 hy1 h2 =>
        rename_i first' cap'
        refine ⟨first'.toList ++ c.args.toList.map a.eval ++ cap'.toList, ?_, ((VL.append (VL.ofArr hx1 h1) kv).append (VL.ofArr hy1 h2))⟩
        have e1 : (first'.toList ++ c.args.toList.map a.eval ++ cap'.toList).toArray = first' ++ c.args.map a.eval ++ cap' := by
          apply Array.ext'; simp
        simp [execOp, ho, resolve, hc, hq, Deferred.ofValue, invoke, run_callFunc hf, e1]
    · cases hw
  · rename_i x name hc; cases hk
    simp only [whom] at hw
    split at hw
    · rename_i t u hxv
      split at hw
      · rename_i g hg; cases hw
        have kx := ev_sound he hxv
        generalize hq : a.eval x = q at kx
        cases kx with
        | iface _ ku =>
          rename_i u'
          obtain ⟨i, m, el, g1, g2, g3, g4, g5⟩ := mtab_spec (findC_mem hg)
          obtain ⟨kk, hkk⟩ := fuel_pos P
          refine ⟨u' :: c.args.toList.map a.eval, ?_, VL.cons ku kv⟩
          have hm : (method (P.types.size + Made.depth) t u' name).run P w = .ok (f, u') w := by
            rw [hkk]; simp [method, typeInfo, g1, g2, g3, g4, follow, receiverAt, run_underlying g5, Place.get]
          have e1 : (u' :: c.args.toList.map a.eval).toArray = #[u'] ++ c.args.map a.eval := by apply Array.ext'; simp
          have e2 : ((#[Value.iface t u'] ++ c.args.map a.eval)[0]? : Option Value) = some (.iface t u') := by rw [Array.getElem?_append_left (by simp)]; rfl
          have e3 : (c.args.map a.eval).extract 0 c.args.size = c.args.map a.eval := by rw [Array.extract_eq_self_of_le (by simp)]
          rw [e1]
          simp only [execOp, ho, resolve, hc, hq, Sem.run_bind, Sem.run_pure, Result.andThen_ok, invoke, e2]
          simp [callMethod, hm, run_callFunc hf, e3]
      · cases hw
    · cases hw
  · cases hk
structure St (base N : Nat) (r0 : Rho) (h0 : H) (w0 : World) (e : Env) (h : H) (a : Act) (w : World) : Prop where
  ex : ∃ r, EnvR r e a.tmps ∧ Rel base r h w ∧ Fr base r0 h0 w0 r h w ∧ Fsh none r0 h0 r
  defers : a.defers = []
  size : a.tmps.size = N
theorem Fsh.trans {r0 r1 r2 : Rho} {h0 h1 : H} (x : Fsh none r0 h0 r1) (hn : h0.next ≤ h1.next) (y : Fsh nm r1 h1 r2) (hy : ∀ n, nm = some n → h0.next ≤ n) : Fsh none r0 h0 r2 :=
  fun n h1' _ h3 => y n (by omega) (fun q => by have := hy n q; omega) (x n h1' (by simp) h3)
variable {N : Nat} {r0 : Rho} {h0 : H} {w0 : World} {ops : Array Oper} {call : CallE} {rb : Nat}
theorem step_core (hcall : SoundC P call) {o : Oper} {s : Step} (hs : compStep P N ops o = some s) {e2 : Env} (E : stepE call rb s e h = some (e2, h2)) (he : EnvR r e a.tmps) (R : Rel base r h w) (hsz : a.tmps.size = N)
    {K : Act → World → Prop} {Q : Exit → Act → World → Prop} (k : ∀ v v' r2 w2, e2 = Am.put e o.dst v → VR r2 v v' → Rel base r2 h2 w2 → Fr base r h w r2 h2 w2 → Fsh none r h r2 → K (a.put o.dst v') w2) :
    if Region.wanted o (yielded ops a.tmps) then o.wp P a w K Q ∨ (o.asks P a w ∧ LetsOut Q) else K (a.put o.dst undef) w := by
  unfold compStep at hs
  split at hs
  · rename_i hdst
    rw [← hsz] at hdst
    split at hs
    · rename_i g hg
      have skip : ∀ {e2 h2}, some (Am.put e o.dst undef, h) = some (e2, h2) → (∀ v v' r2 w2, e2 = Am.put e o.dst v → VR r2 v v' → Rel base r2 h2 w2 → Fr base r h w r2 h2 w2 → Fsh none r h r2 → K (a.put o.dst v') w2) → K (a.put o.dst undef) w := fun {e2 h2} q k => by
        cases q
        exact k _ _ r w rfl .undef R (Fr.refl ..) (Fsh.refl none r h)
      split at hs
      · rename_i c hc
        split at hs
        · rename_i ck hck; cases hs
          have ho : o.op = .call c := by
            unfold isCallO at hc
            split at hc
            · rename_i c' ho
              split at hc
              · cases hc
              · split at hc
                · cases hc
                · cases hc; exact ho
            · cases hc
          simp only [stepE] at E
          split at E
          · rename_i hgd
            rw [gd_sound he hg hgd, if_pos rfl]
            split at E
            · rename_i vs hvs
              split at E
              · rename_i f us hw
                split at E
                · rename_i v h3 hcl; cases E
                  obtain ⟨us', l1, l2⟩ : ∃ us', (execOp a.eval o).run P w = .ok (.enter f us'.toArray) w ∧ VL r us us' := by
                    have kv := evs_sound he hvs
                    obtain ⟨us0, hus0⟩ : ∃ us0, VL r us us0 := by
                      unfold whom at hw
                      split at hw
                      · cases hw; exact ⟨_, kv⟩
                      · split at hw
                        · rename_i x _ _ _ hxv; cases hw
                          have kx := ev_sound he hxv
                          generalize a.eval _ = q at kx
                          cases kx with
                          | func _ hx1 h1 hy1 h2 =>
                            exact ⟨_, ((VL.append (VL.ofArr hx1 h1) kv).append (VL.ofArr hy1 h2))⟩
                        · cases hw
                      · split at hw
                        · rename_i x _ _ _ hxv
                          split at hw
                          · cases hw
                            have kx := ev_sound he hxv
                            generalize a.eval _ = q at kx
                            cases kx with
                            | iface _ ku => exact ⟨_, VL.cons ku kv⟩
                          · cases hw
                        · cases hw
                    exact call_sound ho hck he hvs hw (hcall f base r h w us us0 v _ hcl hus0 R).1
                  left
                  unfold Oper.wp
                  rw [l1, Oper.upon_enter]
                  refine (hcall f base r h w us us' v _ hcl l2 R).2.mono fun x w2 hp => ?_
                  obtain ⟨r2, v', rfl, m1, m2, m3, m4⟩ := hp
                  exact k _ _ _ _ rfl m1 m2 m3 m4
                · cases E
              · cases E
            · cases E
          · rename_i hgd
            rw [gd_sound he hg hgd, if_neg (by simp)]
            exact skip E k
          · cases E
        · cases hs
      · split at hs
        · rename_i i hi; cases hs
          simp only [stepE] at E
          split at E
          · rename_i hgd
            rw [gd_sound he hg hgd, if_pos rfl]
            split at E
            · rename_i v h3 hop; cases E
              left
              exact op_wp (nckC_sound hi R he (nm := none) (fun n q => by cases q) hop) fun r2 w2 v' m1 m2 m3 m4 => k _ _ _ _ rfl m1 m2 m3 m4
            · cases E
          · rename_i hgd
            rw [gd_sound he hg hgd, if_neg (by simp)]
            exact skip E k
          · cases E
        · cases hs
    · cases hs
  · cases hs
theorem compStep_dst {o : Oper} {s : Step} (hs : compStep P N ops o = some s) : okDst N o.dst = true := by
  unfold compStep at hs
  split at hs
  · assumption
  · cases hs
theorem step_sound (hcall : SoundC P call) {o : Oper} {s : Step} (hs : compStep P N ops o = some s) {e2 : Env} (E : stepE call rb s e h = some (e2, h2)) (S : St base N r0 h0 w0 e h a w)
    {K : Act → World → Prop} {Q : Exit → Act → World → Prop} (k : ∀ a2 w2, St base N r0 h0 w0 e2 h2 a2 w2 → K a2 w2) :
    if Region.wanted o (yielded ops a.tmps) then o.wp P a w K Q ∨ (o.asks P a w ∧ LetsOut Q) else K (a.put o.dst undef) w := by
  obtain ⟨⟨r, he, R, F, Fs⟩, hd, hsz⟩ := S
  have hdst := compStep_dst hs
  rw [← hsz] at hdst
  refine step_core hcall hs E he R hsz fun v v' r2 w2 he2 m1 m2 m3 m4 => ?_
  subst he2
  exact k _ _ ⟨⟨r2, (he.mono m3.le).put m1 hdst, m2, F.trans m3, Fs.trans F.next m4 (fun n q => by cases q)⟩, by rw [defers_put]; exact hd, by rw [size_put]; exact hsz⟩
theorem run_sound (hcall : SoundC P call) {Q : Exit → Act → World → Prop} : ∀ (os : List Oper) (k : Nat) (ss : List Step), (∀ j, os[j]? = ops[k + j]?) → k + os.length = ops.size → compSteps P N ops os = some ss →
    ∀ (e : Env) (h : H) (a : Act) (w : World) (e2 : Env) (h2 : H), stepsE call rb ss e h = some (e2, h2) → St base N r0 h0 w0 e h a w → (∀ a2 w2, St base N r0 h0 w0 e2 h2 a2 w2 → Q .normal a2 w2) → wpOps P ops Q (List.range' k os.length) a w := by
  intro os
  induction os with
  | nil => intro k ss _ _ hc e h a w e2 h2 E S q; simp only [compSteps] at hc; cases hc; simp only [stepsE] at E; cases E; exact q _ _ S
  | cons o os ih =>
    intro k ss hj hk hc e h a w e2 h2 E S q
    simp only [compSteps] at hc
    split at hc
    · rename_i s hs
      split at hc
      · rename_i ss' hss; cases hc
        simp only [stepsE] at E
        split at E
        · rename_i e1 h1 hst
          have ho : ops[k]? = some o := by have := hj 0; simpa using this.symm
          simp only [List.length_cons, List.range'_succ, wpOps, ho]
          exact step_sound hcall hs hst S fun a2 w2 S2 => ih (k + 1) ss' (fun j => by have := hj (j + 1); simpa [Nat.add_assoc, Nat.add_comm 1 j] using this) (by simp only [List.length_cons] at hk; omega) hss e1 h1 a2 w2 e2 h2 E S2 q
        · cases E
      · cases hc
    · cases hc
theorem St.norm (S : St base N r0 h0 w0 e h a w) (keep : List Nat) : St base N r0 h0 w0 (Am.norm keep e) h a w := by
  obtain ⟨⟨r, he, R, F, Fs⟩, hd, hsz⟩ := S
  exact ⟨⟨r, norm_sound he keep, R, F, Fs⟩, hd, hsz⟩
end Go.Proofs.Ytkfjlbdedjoojaa.Am
namespace Go.Proofs.Ytkfjlbdedjoojaa.Am
open Go
set_option linter.unusedVariables false
set_option linter.unusedSimpArgs false
variable {P : Program} {base N : Nat} {r0 : Rho} {h0 : H} {w0 : World} {call : CallE} {n : Nat}
def exR : Ex → Exit → Prop
  | .norm, .normal => True
  | .exit i, .exit j => i = j
  | .ret, .ret => True
  | _, _ => False
def CQ (base N : Nat) (r0 : Rho) (h0 : H) (w0 : World) (x : Ex) (e : Env) (h : H) : Exit → Act → World → Prop := fun y a w => exR x y ∧ St base N r0 h0 w0 e h a w
def DrawOK (P : Program) : Prop := ∀ (N : Nat) (ops : Array Oper) (ds : List DI) (ss : List Step), okDraw P N ops ds ss = true → compDI P N ops ds = some ss → ∀ (call : CallE), SoundC P call → ∀ (base : Nat) (r0 : Rho) (h0 : H) (w0 : World) (id : Nat) (e : Env) (h : H) (a : Act) (w : World) (e2 : Env) (h2 : H) (Q : Exit → Act → World → Prop),
  stepsE call h.next ss e (h.up ops.size) = some (e2, h2) → St base N r0 h0 w0 e h a w → (∀ a2 w2, St base N r0 h0 w0 e2 h2 a2 w2 → Q .normal a2 w2) → (Code.region id ops true).wp P Q a w
theorem loop_sound {c : Code} {b : IC} (hbody : ∀ e h a w x e2 h2, codeE call n b e h = some (x, e2, h2) → St base N r0 h0 w0 e h a w → c.wp P (CQ base N r0 h0 w0 x e2 h2) a w) (keep : List Nat) :
    ∀ (m : Nat) (e : Env) (h : H) (a : Act) (w : World) (x : Ex) (e2 : Env) (h2 : H), loopE (codeE call n b) keep m e h = some (x, e2, h2) → St base N r0 h0 w0 e h a w → ∀ (fb : Frame) (k : List Item) (cs : List Frame),
      ∃ y a' w', CQ base N r0 h0 w0 x e2 h2 y a' w' ∧ Arrives P (lone (fb.at a (.code c :: .inLoop c :: k)) cs w) fb k cs y a' w' := by
  intro m
  induction m with
  | zero => intro e h a w x e2 h2 E; cases E
  | succ m ih =>
    intro e h a w x e2 h2 E S fb k cs
    simp only [loopE] at E
    split at E
    · rename_i e1 h1 hb
      obtain ⟨y, a1, w1, ⟨hx, S1⟩, harr⟩ := hbody _ _ _ _ _ _ _ hb (S.norm keep) fb (.inLoop c :: k) cs
      cases y <;> first | (exact hx.elim) | skip
      obtain ⟨y2, a2, w2, hq, harr2⟩ := ih e1 h1 a1 w1 x e2 h2 E S1 fb k cs
      exact ⟨y2, a2, w2, hq, .of_steps (Steps.trans harr (.one step_inLoop)) harr2⟩
    · rename_i x1 e1 h1 hne hb; cases E
      obtain ⟨y, a1, w1, ⟨hx, S1⟩, harr⟩ := hbody _ _ _ _ _ _ _ hb (S.norm keep) fb (.inLoop c :: k) cs
      have hno : y ≠ .normal := fun q => by
        subst q
        cases x with
        | norm => exact hne rfl
        | exit id => exact hx
        | ret => exact hx
      cases y with
      | normal => exact absurd rfl hno
      | exit id => exact ⟨_, a1, w1, ⟨hx, S1⟩, .pass (x := .inLoop c) rfl (fun _ _ => .inl (by simp)) harr⟩
      | goto l => exact ⟨_, a1, w1, ⟨hx, S1⟩, .pass (x := .inLoop c) rfl (fun _ _ => .inl (by simp)) harr⟩
      | ret => exact ⟨_, a1, w1, ⟨hx, S1⟩, .pass (x := .inLoop c) rfl (fun _ _ => .inl (by simp)) harr⟩
      | panic ch => exact ⟨_, a1, w1, ⟨hx, S1⟩, .pass (x := .inLoop c) rfl (fun _ _ => .inl (by simp)) harr⟩
      | outgrown => exact ⟨_, a1, w1, ⟨hx, S1⟩, .pass (x := .inLoop c) rfl (fun _ _ => .inl (by simp)) harr⟩
    · cases E
theorem code_sound (hD : DrawOK P) (hcall : SoundC P call) : ∀ (c : Code) (hs : List Hint) (ic : IC) (hs' : List Hint), comp P N c hs = some (ic, hs') →
    ∀ (e : Env) (h : H) (a : Act) (w : World) (x : Ex) (e2 : Env) (h2 : H), codeE call n ic e h = some (x, e2, h2) → St base N r0 h0 w0 e h a w → c.wp P (CQ base N r0 h0 w0 x e2 h2) a w := by
  intro c
  induction c with
  | skip => intro hs ic hs' hc e h a w x e2 h2 E S; simp only [comp] at hc; cases hc; simp only [codeE] at E; cases E; exact wp_skip ⟨trivial, S⟩
  | ret => intro hs ic hs' hc e h a w x e2 h2 E S; simp only [comp] at hc; cases hc; simp only [codeE] at E; cases E; exact wp_ret ⟨trivial, S⟩
  | exit id => intro hs ic hs' hc e h a w x e2 h2 E S; simp only [comp] at hc; cases hc; simp only [codeE] at E; cases E; exact wp_exit ⟨rfl, S⟩
  | seq c d ihc ihd =>
    intro hs ic hs' hc e h a w x e2 h2 E S
    simp only [comp] at hc
    split at hc
    · rename_i ic1 hs1 hc1
      split at hc
      · rename_i ic2 hs2 hc2; cases hc
        simp only [codeE] at E
        refine wp_seq ?_
        split at E
        · rename_i e1 h1 E1
          refine wp_mono (ihc _ _ _ hc1 _ _ _ _ _ _ _ E1 S) fun y a1 w1 hq => ?_
          obtain ⟨hx, S1⟩ := hq
          cases y <;> first | (exact hx.elim) | skip
          exact ihd _ _ _ hc2 _ _ _ _ _ _ _ E S1
        · rename_i x1 e1 h1 hne E1; cases E
          refine wp_mono (ihc _ _ _ hc1 _ _ _ _ _ _ _ E1 S) fun y a1 w1 hq => ?_
          obtain ⟨hx, S1⟩ := hq
          cases y with
          | normal =>
            cases x with
            | norm => exact (hne rfl).elim
            | exit id => exact hx.elim
            | ret => exact hx.elim
          | _ => exact ⟨hx, S1⟩
        · cases E
      · cases hc
    · cases hc
  | cond o c d ihc ihd =>
    intro hs ic hs' hc e h a w x e2 h2 E S
    simp only [comp] at hc
    split at hc
    · rename_i ic1 hs1 hc1
      split at hc
      · rename_i ic2 hs2 hc2; cases hc
        simp only [codeE] at E
        obtain ⟨⟨r, he, _⟩, _⟩ := id S
        split at E
        · rename_i hv; exact wp_cond_true (VR.bool_inv (ev_sound he hv)) (ihc _ _ _ hc1 _ _ _ _ _ _ _ E S)
        · rename_i hv; exact wp_cond_false (VR.bool_inv (ev_sound he hv)) (ihd _ _ _ hc2 _ _ _ _ _ _ _ E S)
        · cases E
      · cases hc
    · cases hc
  | block id c ihc =>
    intro hs ic hs' hc e h a w x e2 h2 E S
    simp only [comp] at hc
    split at hc
    · rename_i ic1 hs1 hc1; cases hc
      simp only [codeE] at E
      refine wp_block ?_
      split at E
      · rename_i j e1 h1 E1
        refine wp_mono (ihc _ _ _ hc1 _ _ _ _ _ _ _ E1 S) fun y a1 w1 hq => ?_
        obtain ⟨hx, S1⟩ := hq
        cases y <;> first | (exact hx.elim) | skip
        rename_i j'
        simp only [exR] at hx; subst hx
        simp only [Exit.inBlock]
        split at E
        · rename_i hj; cases E; rw [if_pos hj]; exact ⟨trivial, S1⟩
        · rename_i hj; cases E; rw [if_neg hj]; exact ⟨rfl, S1⟩
      · rename_i x1 e1 h1 hne E1; cases E
        refine wp_mono (ihc _ _ _ hc1 _ _ _ _ _ _ _ E1 S) fun y a1 w1 hq => ?_
        obtain ⟨hx, S1⟩ := hq
        cases y with
        | exit j =>
          cases x with
          | norm => exact hx.elim
          | exit i => exact (hne _ rfl).elim
          | ret => exact hx.elim
        | _ => exact ⟨hx, S1⟩
      · cases E
    · cases hc
  | loop c ihc =>
    intro hs ic hs' hc e h a w x e2 h2 E S
    simp only [comp] at hc
    split at hc
    · rename_i l hs0
      split at hc
      · rename_i ic1 hs1 hc1; cases hc
        simp only [codeE] at E
        intro fb k cs
        obtain ⟨y, a', w', hq, harr⟩ := loop_sound (fun e h a w x e2 h2 E S => ihc _ _ _ hc1 e h a w x e2 h2 E S) l n e h a w x e2 h2 E S fb k cs
        exact ⟨y, a', w', hq, .of_steps (.one step_loop) harr⟩
      · cases hc
    · cases hc
  | region id ops d =>
    intro hs ic hs' hc e h a w x e2 h2 E S
    cases d with
    | false =>
      simp only [comp] at hc
      split at hc
      · rename_i l hs0
        split at hc
        · rename_i ss hss; cases hc
          simp only [codeE] at E
          split at E
          · rename_i e1 h1 E1; cases E
            refine wp_region ?_
            have := run_sound (P := P) (ops := ops) (rb := 0) (Q := CQ base N r0 h0 w0 .norm (norm l e1) h2) hcall ops.toList 0 ss (fun j => by simp) (by simp) hss e h a w e1 h2 E1 S (fun a2 w2 S2 => ⟨trivial, S2.norm l⟩)
            rw [List.range_eq_range']; simpa using this
          · cases E
        · cases hc
      · cases hc
    | true =>
      simp only [comp] at hc
      split at hc
      · rename_i ds l hs0
        split at hc
        · rename_i ss hss
          split at hc
          · rename_i hok; cases hc
            simp only [codeE] at E
            split at E
            · rename_i e1 h1 E1; cases E
              exact hD N ops ds ss hok hss call hcall base r0 h0 w0 id e h a w e1 h2 _ E1 S (fun a2 w2 S2 => ⟨trivial, S2.norm l⟩)
            · cases E
          · cases hc
        · cases hc
      · cases hc
  | _ => intro hs ic hs' hc; simp only [comp] at hc; cases hc
theorem look_mkEnv : ∀ (us : List Value) (k t : Nat) (v : Value), look (mkEnv k us) t = some v → k ≤ t ∧ us[t - k]? = some v := by
  intro us
  induction us with
  | nil => intro k t v h; simp [mkEnv, look] at h
  | cons u us ih =>
    intro k t v h
    simp only [mkEnv, look] at h
    split at h
    · rename_i e1; subst e1; cases h; exact ⟨Nat.le_refl _, by simp⟩
    · rename_i e1
      obtain ⟨h1, h2⟩ := ih (k + 1) t v h
      refine ⟨by omega, ?_⟩
      have : t - k = (t - (k + 1)) + 1 := by omega
      rw [this]; simpa using h2
def resOne (tmps : Array Value) : ResultVar → Sem Value
  | .tmp t => pure (tmps.getD t undef)
  | .cell a t => do loadVar t (← asAddr (tmps.getD a undef))
theorem run_loadVar1 {t : TypeId} {d : TypeDesc} (hd : P.underlying t = some d) (hA : isAggB P t = false) {a' : Addr} {v : Value} {w : World} (h : w.cell? a' = some v) : (loadVar t a').run P w = .ok v w := by
  unfold isAggB at hA; rw [hd] at hA
  have : (isAgg t).run P w = .ok false w := by
    unfold isAgg
    cases d <;> first | (simp at hA; done) | simp [run_underlying hd]
  simp [loadVar, this, run_load, h]
theorem run_loadVarN {t : TypeId} {i : TypeInfo} (hi : P.info? t = some i) (hA : isAggB P t = true) {a' : Addr} {vs : List Value} {w : World} (h : (loadCells a' i.size).run P w = .ok vs.toArray w) : (loadVar t a').run P w = .ok (.agg vs.toArray) w := by
  have : (isAgg t).run P w = .ok true w := by
    unfold isAggB at hA; unfold isAgg
    cases hd : P.underlying t with
    | none => rw [hd] at hA; cases hA
    | some d => rw [hd] at hA; cases d <;> first | (simp at hA; done) | simp [run_underlying hd]
  simp [loadVar, this, run_sizeOf' hi, h]
theorem resOne_sound {r : Rho} {h : H} {w : World} {e : Env} {ts : Array Value} (R : Rel base r h w) (he : EnvR r e ts) {x : ResultVar} {y : RV} (hc : compRV P x = some y) {rs : List RV} {vs : List Value} (E : resE (y :: rs) e h = some vs) :
    ∃ v v' us, vs = v :: us ∧ resE rs e h = some us ∧ (resOne ts x).run P w = .ok v' w ∧ VR r v v' := by
  have tmp : ∀ t v, look e t = some v → ∃ v', ts.getD t undef = v' ∧ VR r v v' := fun t v q => by
    obtain ⟨v', q1, q2⟩ := he t v q
    exact ⟨v', by simp [Array.getD_eq_getD_getElem?, q1], q2⟩
  cases x with
  | tmp t =>
    simp only [compRV] at hc; cases hc
    simp only [resE] at E
    split at E
    · rename_i v hv
      split at E
      · rename_i us hus; cases E
        obtain ⟨v', q1, q2⟩ := tmp t v hv
        exact ⟨v, v', us, rfl, hus, by simp [resOne, q1], q2⟩
      · cases E
    · cases E
  | cell t ty =>
    simp only [compRV] at hc
    split at hc <;> (try (cases hc; done)) <;> cases hc <;> simp only [resE] at E
    · rename_i n fs hs ht
      split at E
      · rename_i p hp
        split at E
        · rename_i v hv
          split at E
          · rename_i us hus; cases E
            split at hv
            · rename_i ws hws; cases hv
              obtain ⟨v', q1, q2⟩ := tmp t _ hp
              cases q2 with
              | ptr q2 =>
                obtain ⟨i, hi, rfl⟩ := info_of_szOf hs
                obtain ⟨ws', k1, k2, _⟩ := lds_run (P := P) R (.inr q2) hws
                exact ⟨_, _, us, rfl, hus, by simp only [resOne, q1]; simp [asAddr, run_loadVarN hi (by simp [isAggB, ht]) (k1 w rfl)], VR.ofAgg k2⟩
            · cases hv
          · cases E
        · cases E
      · cases E
    · rename_i n m el hs ht
      split at E
      · rename_i p hp
        split at E
        · rename_i v hv
          split at E
          · rename_i us hus; cases E
            split at hv
            · rename_i ws hws; cases hv
              obtain ⟨v', q1, q2⟩ := tmp t _ hp
              cases q2 with
              | ptr q2 =>
                obtain ⟨i, hi, rfl⟩ := info_of_szOf hs
                obtain ⟨ws', k1, k2, _⟩ := lds_run (P := P) R (.inr q2) hws
                exact ⟨_, _, us, rfl, hus, by simp only [resOne, q1]; simp [asAddr, run_loadVarN hi (by simp [isAggB, ht]) (k1 w rfl)], VR.ofAgg k2⟩
            · cases hv
          · cases E
        · cases E
      · cases E
    · rename_i n d n1 n2 hs ht
      split at E
      · rename_i p hp
        split at E
        · rename_i v hv
          split at E
          · rename_i us hus; cases E
            obtain ⟨v', q1, q2⟩ := tmp t _ hp
            cases q2 with
            | ptr q2 =>
              obtain ⟨u', k1, k2, k3⟩ := ld_run R q2 hv
              refine ⟨v, u', us, rfl, hus, ?_, k2⟩
              have hA : isAggB P ty = false := by
                unfold isAggB; rw [ht]
                cases d <;> first | rfl | (exact absurd rfl (n1 _)) | (exact absurd rfl (n2 _ _))
              simp only [resOne, q1]; simp [asAddr, run_loadVar1 ht hA k1]
          · cases E
        · cases E
      · cases E
theorem res_sound {r : Rho} {h : H} {w : World} {e : Env} {ts : Array Value} (R : Rel base r h w) (he : EnvR r e ts) : ∀ {xs : List ResultVar} {ys : List RV} {vs : List Value}, compRVs P xs = some ys → resE ys e h = some vs →
    ∃ vs', (xs.mapM (resOne ts)).run P w = .ok vs' w ∧ VL r vs vs' := by
  intro xs
  induction xs with
  | nil => intro ys vs hc E; simp only [compRVs] at hc; cases hc; simp only [resE] at E; cases E; exact ⟨[], by simp, VL.nil r⟩
  | cons x xs ih =>
    intro ys vs hc E
    simp only [compRVs] at hc
    split at hc
    · rename_i y hy
      split at hc
      · rename_i ys' hys; cases hc
        obtain ⟨v, v', us, rfl, g1, g2, g3⟩ := resOne_sound R he hy E
        obtain ⟨us', k1, k2⟩ := ih hys g1
        exact ⟨v' :: us', by simp [List.mapM_cons, g2, k1], VL.cons g3 k2⟩
      · cases hc
    · cases hc
theorem results_sound {r : Rho} {h : H} {w : World} {e : Env} {ts : Array Value} (R : Rel base r h w) (he : EnvR r e ts) {fn : Func} {ys : List RV} {vs : List Value} (hc : compRVs P fn.results.toList = some ys) (E : resE ys e h = some vs) :
    ∃ v', (results fn ts).run P w = .ok v' w ∧ VR r (packE vs) v' := by
  obtain ⟨vs', k1, k2⟩ := res_sound R he hc E
  have hm : (fn.results.mapM (resOne ts)).run P w = .ok vs'.toArray w := by
    rw [Array.mapM_eq_mapM_toList]; simp [k1]
  have hr : results fn ts = (do let vs ← fn.results.mapM (resOne ts); pure (if h : vs.size = 1 then vs[0] else .tuple vs)) := by
    unfold results
    congr 1
  rw [hr]
  simp only [Sem.run_bind, hm, Result.andThen_ok, Sem.run_pure]
  refine ⟨_, rfl, ?_⟩
  have hl := k2.1
  unfold packE
  split
  · rename_i v
    match vs', hl with
    | [v'], _ => simp only [List.size_toArray, List.length_cons, List.length_nil, dite_true]; exact k2.2 0 _ _ rfl rfl
  · rename_i hne
    rw [dif_neg (fun q => by
      match vs, hl with
      | [v], _ => exact hne v rfl
      | [], hl => simp at hl q; rw [← hl] at q; simp at q
      | _ :: _ :: _, hl => simp at hl q; omega)]
    exact VR.ofTuple k2
def TabOK (P : Program) (tab : Nat → Option FD) : Prop := ∀ f d, tab f = some d → match d with
  | .code F => ∃ hs, compF P f hs = some F
  | .spec g => SoundF P f g
theorem St.refl {r : Rho} {h : H} {w : World} {e : Env} {a : Act} (R : Rel base r h w) (he : EnvR r e a.tmps) (hd : a.defers = []) (hs : a.tmps.size = N) : St base N r h w e h a w :=
  ⟨⟨r, he, R, Fr.refl .., Fsh.refl none r h⟩, hd, hs⟩
theorem fun_sound (hD : DrawOK P) {f : Nat} {hs : List Hint} {F : IFun} (hF : compF P f hs = some F) (hcall : SoundC P call) :
    SoundF P f (fun us h => if us.length = F.np then match codeE call n F.body (mkEnv 0 us) h with
      | some (.norm, e2, h2) => match resE F.rs e2 h2 with
        | some vs => some (packE vs, h2)
        | none => none
      | some (.ret, e2, h2) => match resE F.rs e2 h2 with
        | some vs => some (packE vs, h2)
        | none => none
      | _ => none else none) := by
  intro base r h w us us' v h2 E hv R
  unfold compF at hF
  split at hF
  · rename_i fn hfn
    split at hF
    · rename_i hnm
      split at hF
      · rename_i c hb
        split at hF
        · rename_i ic hcomp
          split at hF
          · rename_i rs hrs; cases hF
            refine ⟨⟨fn, hfn, hnm.1, by simp [hb]⟩, ?_⟩
            simp only at E
            split at E
            · rename_i hlen
              have hl := hv.1
              refine calls_of_wp (c := c) hfn hb ?_
              have S : St base fn.ntmps r h w (mkEnv 0 us) h { tmps := us'.toArray ++ Array.replicate (fn.ntmps - us'.toArray.size) undef, defers := [] } w := by
                refine St.refl R (fun t u hu => ?_) rfl (by simp; omega)
                obtain ⟨_, q⟩ := look_mkEnv us 0 t u hu
                obtain ⟨u', q1, q2⟩ := hv.get q
                refine ⟨u', ?_, q2⟩
                have ht : t < us'.length := by simpa using (List.getElem?_eq_some_iff.1 q1).1
                simp only [Nat.sub_zero] at q1
                rw [Array.getElem?_append_left (by simpa using ht)]; simpa using q1
              have fin : ∀ {x e2 h3 vs}, codeE call n ic (mkEnv 0 us) h = some (x, e2, h3) → (x = .norm ∨ x = .ret) → resE rs e2 h3 = some vs → (packE vs, h3) = (v, h2) →
                  c.wp P (bodyPost P fn (Post base r h w v h2)) { tmps := us'.toArray ++ Array.replicate (fn.ntmps - us'.toArray.size) undef, defers := [] } w := fun {x e2 h3 vs} E1 hx E2 hq => by
                cases hq
                refine wp_mono (code_sound hD hcall c hs ic [] hcomp _ _ _ _ _ _ _ E1 S) fun y a1 w1 hq => ?_
                obtain ⟨hxy, ⟨⟨r1, he1, R1, F1, Fs1⟩, hd1, _⟩⟩ := hq
                obtain ⟨v', g1, g2⟩ := results_sound R1 he1 hrs E2
                have hp : Post base r h w (packE vs) _ (.returned v') w1 := ⟨r1, v', rfl, g2, R1, F1, Fs1⟩
                rcases hx with rfl | rfl <;> cases y <;> first | (exact hxy.elim) | exact ⟨hd1, v', g1, hp⟩
              split at E
              · rename_i e2 h3 E1
                split at E
                · rename_i vs E2; cases E; exact fin E1 (.inl rfl) E2 rfl
                · cases E
              · rename_i e2 h3 E1
                split at E
                · rename_i vs E2; cases E; exact fin E1 (.inr rfl) E2 rfl
                · cases E
              · cases E
            · cases E
          · cases hF
        · cases hF
      · cases hF
    · cases hF
  · cases hF
theorem run_table (hD : DrawOK P) {tab : Nat → Option FD} (ht : TabOK P tab) : ∀ n, SoundC P (runE tab n) := by
  intro n
  induction n with
  | zero => intro f base r h w us us' v h2 E; cases E
  | succ n ih =>
    intro f
    have hf := ht f
    intro base r h w us us' v h2 E hv R
    simp only [runE] at E
    split at E
    · rename_i F hF
      obtain ⟨hs, hc⟩ := hf _ hF
      exact fun_sound (n := n) hD hc ih base r h w us us' v h2 E hv R
    · rename_i g hg
      exact hf _ hg base r h w us us' v h2 E hv R
    · cases E
end Go.Proofs.Ytkfjlbdedjoojaa.Am
namespace Go.Proofs.Ytkfjlbdedjoojaa.Am
open Go
set_option linter.unusedVariables false
set_option linter.unusedSimpArgs false
def Same (e e' : Env) (l : List Nat) : Prop := ∀ t ∈ l, look e t = look e' t
theorem Same.l {e e' : Env} {l m : List Nat} (h : Same e e' (l ++ m)) : Same e e' l := fun t ht => h t (List.mem_append_left _ ht)
theorem Same.r {e e' : Env} {l m : List Nat} (h : Same e e' (l ++ m)) : Same e e' m := fun t ht => h t (List.mem_append_right _ ht)
theorem ev_same {e e' : Env} {x : Operand} (h : Same e e' (tO x)) : ev e x = ev e' x := by
  cases x <;> first | rfl | exact h _ (by simp [tO])
theorem evs_same {e e' : Env} : ∀ {xs : List Operand}, Same e e' (tL xs) → evs e xs = evs e' xs := by
  intro xs
  induction xs with
  | nil => intro _; rfl
  | cons x xs ih => intro h; simp only [evs, ev_same h.l, ih h.r]
theorem evp_same {e e' : Env} : ∀ {xs : List (Nat × Nat × Operand)}, Same e e' (tP xs) → evp e xs = evp e' xs := by
  intro xs
  induction xs with
  | nil => intro _; rfl
  | cons x xs ih => obtain ⟨a, b, x⟩ := x; intro h; simp only [evp, ev_same (x := x) h.l, ih h.r]
theorem bnd_same {e e' : Env} {x : Option Operand} (h : Same e e' (tOp x)) : bnd e x = bnd e' x := by
  cases x with
  | none => rfl
  | some x => simp only [bnd, ev_same (x := x) h]
theorem opE_same {e e' : Env} {i : IOp} {h : H} {nm : Option Nat} (s : Same e e' (tI i)) : opE i e h nm = opE i e' h nm := by
  cases i <;> simp only [tI] at s
  case new z => rfl
  case lenC n => rfl
  case bad => rfl
  case pick c a b => simp only [opE, ev_same s.l, ev_same s.r.l, ev_same s.r.r]
  case build z ps => simp only [opE, evp_same s]
  case bsl es len z ps => simp only [opE, evp_same s]
  case mkF fn fs cs => simp only [opE, evs_same s.l, evs_same s.r]
  case slS x lo hi => simp only [opE, ev_same s.l, bnd_same s.r.l, bnd_same s.r.r]
  case slV es x lo hi mx => simp only [opE, ev_same s.l, bnd_same s.r.l, bnd_same s.r.r.l, bnd_same s.r.r.r]
  case slA n es x lo hi mx => simp only [opE, ev_same s.l, bnd_same s.r.l, bnd_same s.r.r.l, bnd_same s.r.r.r]
  all_goals first | (simp only [opE, ev_same s]; done) | (simp only [opE, ev_same s.l, ev_same s.r]; done)
theorem addrOf_same {e e' : Env} {i : IOp} (s : Same e e' (tI i)) : addrOf i e = addrOf i e' := by
  cases i <;> first | rfl | (simp only [tI] at s; simp only [addrOf, ev_same s])
theorem opE_k0 {i : IOp} (hk : kI i = 0) {e : Env} {h h2 : H} {nm : Option Nat} {v : Value} (E : opE i e h nm = some (v, h2)) : h2 = h ∧ ∀ h' nm', opE i e h' nm' = some (v, h') := by
  cases i <;> simp only [kI] at hk <;> try (cases hk; done)
  all_goals
    simp only [opE] at E ⊢
    (repeat' split at E) <;> first | (cases E; done) | (cases E; refine ⟨rfl, fun h' nm' => ?_⟩; first | (simp_all; done) | (simp_all; omega))
theorem opE_k1 {i : IOp} (hk : kI i = 1) {e : Env} {h h2 : H} {nm : Option Nat} {v : Value} (E : opE i e h nm = some (v, h2)) : h2 = h ∧ ∀ h', (∀ x B, h.get x = some B → h'.get x = some B) → opE i e h' nm = some (v, h') := by
  have ld : ∀ {a u h'}, h.ld a = some u → (∀ x B, h.get x = some B → h'.get x = some B) → H.ld h' a = some u := fun {a u h'} q s => by
    unfold H.ld at q ⊢
    split at q
    · cases q
    · split at q
      · rename_i B hB; rw [s _ _ hB]; exact q
      · cases q
  have lds : ∀ {a n u h'}, h.lds a n = some u → (∀ x B, h.get x = some B → h'.get x = some B) → H.lds h' a n = some u := fun {a n u h'} q s => by
    unfold H.lds at q ⊢
    split at q
    · rename_i h0; rw [if_pos h0]; exact q
    · rename_i h0; rw [if_neg h0]
      split at q
      · cases q
      · split at q
        · rename_i B hB; rw [s _ _ hB]; exact q
        · cases q
  cases i <;> simp only [kI] at hk <;> try (cases hk; done)
  case ld1 x =>
    simp only [opE] at E ⊢
    split at E
    · split at E
      · rename_i u hu; cases E; exact ⟨rfl, fun h' s => by rw [ld hu s]⟩
      · cases E
    · cases E
  case ldN n x =>
    simp only [opE] at E ⊢
    split at E
    · split at E
      · rename_i u hu; cases E; exact ⟨rfl, fun h' s => by rw [lds hu s]⟩
      · cases E
    · cases E
  case cvB x =>
    simp only [opE] at E ⊢
    split at E
    · cases E; exact ⟨rfl, fun h' s => rfl⟩
    · split at E
      · rename_i u hu
        split at E
        · rename_i z hz; cases E; exact ⟨rfl, fun h' s => by rw [lds hu s]; simp only [hz]⟩
        · cases E
      · cases E
    · cases E
  case ovl x y =>
    simp only [opE] at E ⊢
    split at E
    · split at E
      · split at E
        · rename_i A hA
          split at E
          · rename_i B hB
            split at E
            · rename_i hc; cases E; exact ⟨rfl, fun h' s => by rw [s _ _ hA]; simp only; rw [s _ _ hB]; simp only; rw [if_pos hc]⟩
            · cases E
          · cases E
        · cases E
      · cases E
    · cases E
  case slV es x lo hi mx =>
    simp only [opE] at E ⊢
    split at E
    · split at E
      · split at E
        · rename_i hc
          split at E
          · split at E
            · rename_i h0; cases E; exact ⟨rfl, fun h' s => by rw [if_pos hc, if_pos h0]⟩
            · cases E
          · split at E
            · rename_i h0; cases E; exact ⟨rfl, fun h' s => by rw [if_pos hc, if_pos h0]⟩
            · rename_i h0
              split at E
              · rename_i B hB
                split at E
                · rename_i h1; cases E; exact ⟨rfl, fun h' s => by rw [if_pos hc, if_neg h0, s _ _ hB]; simp only; rw [if_pos h1]⟩
                · cases E
              · cases E
        · cases E
      · cases E
    · cases E
theorem opE_addr {i : IOp} {e : Env} {h h2 : H} {nm : Option Nat} {v : Value} {n : Nat} (ha : addrOf i e = some n) (E : opE i e h nm = some (v, h2)) : ∀ h', H.get h' n = h.get n → opE i e h' nm = some (v, h') := by
  intro h' s
  unfold addrOf at ha
  split at ha
  · split at ha
    · rename_i a hx; cases ha
      simp only [opE, hx] at E ⊢
      have : H.ld h' a = h.ld a := by simp only [H.ld, s]
      rw [this]
      split at E
      · cases E; rfl
      · cases E
    · cases ha
  · split at ha
    · rename_i a hx; cases ha
      simp only [opE, hx] at E ⊢
      have : ∀ n, H.lds h' a n = h.lds a n := fun n => by simp only [H.lds, s]
      rw [this]
      split at E
      · cases E; rfl
      · cases E
    · cases ha
  · split at ha
    · rename_i a _ _ hx; cases ha
      simp only [opE, hx] at E ⊢
      have : ∀ n, H.lds h' a n = h.lds a n := fun n => by simp only [H.lds, s]
      rw [this]
      split at E
      · split at E
        · cases E; rfl
        · cases E
      · cases E
    · cases ha
  · cases ha
theorem opE_k2 {i : IOp} (hk : kI i = 2) {e : Env} {h h2 : H} {m : Nat} {v : Value} (E : opE i e h (some m) = some (v, h2)) : ∃ B, h2 = h.set m (some B) ∧ ∀ h', opE i e h' (some m) = some (v, H.set h' m (some B)) := by
  cases i <;> simp only [kI] at hk <;> try (cases hk; done)
  all_goals
    simp only [opE, H.mkb] at E ⊢
    (repeat' split at E) <;> first | (cases E; done) | (cases E; exact ⟨_, rfl, fun h' => by simp_all⟩)
theorem gd_same {e e' : Env} {g : Option (Nat × Bool)} (h : ∀ d b, g = some (d, b) → look e d = look e' d) : gd e g = gd e' g := by
  cases g with
  | none => rfl
  | some p => obtain ⟨d, b⟩ := p; simp only [gd, h d b rfl]
theorem gd_same' {e e' : Env} {g : Option (Nat × Bool)} (h : Same e e' (tG g)) : gd e g = gd e' g := gd_same fun d b q => by subst q; exact h d (by simp [tG])
theorem whom_same {e e' : Env} {k : CK} {vs : List Value} (h : Same e e' (tC k)) : whom k e vs = whom k e' vs := by
  cases k with
  | fn f => rfl
  | val x => simp only [whom, ev_same (x := x) h]
  | inv x t => simp only [whom, ev_same (x := x) h]
theorem stepE_same {call : CallE} {rb : Nat} {s : Step} {e e' e2 : Env} {h h2 : H} (hs : Same e e' (tS s)) (hn : ∀ d g i, s ≠ .chk d g i) (E : stepE call rb s e h = some (e2, h2)) :
    ∃ v, e2 = put e (dS s) v ∧ stepE call rb s e' h = some (put e' (dS s) v, h2) := by
  cases s with
  | op d g i =>
    simp only [tS] at hs
    simp only [stepE, dS] at E ⊢
    rw [← gd_same' hs.l, ← opE_same hs.r]
    split at E
    · split at E
      · rename_i hop; cases E; exact ⟨_, rfl, by first | rfl | rw [hop]⟩
      · cases E
    · cases E; exact ⟨_, rfl, rfl⟩
    · cases E
  | opA d g i k =>
    simp only [tS] at hs
    simp only [stepE, dS] at E ⊢
    rw [← gd_same' hs.l, ← opE_same hs.r]
    split at E
    · split at E
      · rename_i hop; cases E; exact ⟨_, rfl, by first | rfl | rw [hop]⟩
      · cases E
    · cases E; exact ⟨_, rfl, rfl⟩
    · cases E
  | opR d g i k =>
    simp only [tS] at hs
    simp only [stepE, dS] at E ⊢
    rw [← gd_same' hs.l, ← opE_same hs.r, ← addrOf_same hs.r]
    split at E
    · split at E
      · rename_i n ha
        split at E
        · rename_i hnk
          split at E
          · rename_i hop; cases E; exact ⟨_, rfl, by first | rfl | (rw [if_pos hnk] <;> simp only [hop])⟩
          · cases E
        · cases E
      · cases E
    · cases E; exact ⟨_, rfl, rfl⟩
    · cases E
  | chk d g i => exact absurd rfl (hn d g i)
  | call d g k xs =>
    simp only [tS] at hs
    simp only [stepE, dS] at E ⊢
    rw [← gd_same' hs.l, ← evs_same hs.r.r]
    split at E
    · split at E
      · rename_i vs hvs
        rw [whom_same hs.r.l] at E
        split at E
        · split at E
          · rename_i hcl; cases E; exact ⟨_, rfl, by first | rfl | simp only [hcl]⟩
          · cases E
        · cases E
      · cases E
    · cases E; exact ⟨_, rfl, rfl⟩
    · cases E
end Go.Proofs.Ytkfjlbdedjoojaa.Am
namespace Go.Proofs.Ytkfjlbdedjoojaa.Am
open Go
set_option linter.unusedVariables false
set_option linter.unusedSimpArgs false
variable {P : Program} {N : Nat} {ops : Array Oper} {call : CallE} {rb : Nat}
theorem sig_of : ∀ (ss : List Step) (e : Env) (h : H) (e2 : Env) (h2 : H), stepsE call rb ss e h = some (e2, h2) → ∃ sig : Nat → Env × H, sig 0 = (e, h) ∧ sig ss.length = (e2, h2) ∧ ∀ k s, ss[k]? = some s → stepE call rb s (sig k).1 (sig k).2 = some (sig (k + 1)) := by
  intro ss
  induction ss with
  | nil => intro e h e2 h2 E; simp only [stepsE] at E; cases E; exact ⟨fun _ => (e, h), rfl, rfl, fun k s q => by simp at q⟩
  | cons s ss ih =>
    intro e h e2 h2 E
    simp only [stepsE] at E
    split at E
    · rename_i e1 h1 hs
      obtain ⟨sig, g1, g2, g3⟩ := ih e1 h1 e2 h2 E
      refine ⟨fun k => match k with | 0 => (e, h) | k + 1 => sig k, rfl, by simpa using g2, fun k u q => ?_⟩
      cases k with
      | zero => simp at q; subst q; simp only [g1]; exact hs
      | succ k => simp at q; exact g3 k u q
    · cases E
def Sp (P : Program) (N : Nat) (ops : Array Oper) (x : It) : Prop := ∃ o, ops[x.i]? = some o ∧
  ((x.k = 3 ∧ compStep P N ops o = some x.s ∧ ∀ d g i, x.s ≠ .chk d g i) ∨ ((x.k = 0 ∨ x.k = 1) ∧ ∃ d g j, compStep P N ops o = some x.s ∧ x.s = .op d g j ∧ kI j = x.k) ∨
   (x.k = 2 ∧ ∃ d g j, compStep P N ops o = some (.op d g j) ∧ x.s = .opA d g j x.i ∧ kI j = 2) ∨ (x.k = 4 ∧ ∃ d g j, compStep P N ops o = some (.op d g j) ∧ x.s = .opR d g j x.q ∧ kI j = 1) ∨
   (x.k = 5 ∧ ∃ d g j, compStep P N ops o = some (.op (some d) g j) ∧ x.s = .chk d g j))
theorem kI_cases (j : IOp) : kI j = 0 ∨ kI j = 1 ∨ kI j = 2 ∨ kI j = 3 := by cases j <;> simp [kI]
theorem compStep_form {o : Oper} {s : Step} (h : compStep P N ops o = some s) : dS s = o.dst ∧ ((∃ d g i, s = .op d g i) ∨ ∃ d g c xs, s = .call d g c xs) := by
  unfold compStep at h
  split at h
  · split at h
    · split at h
      · split at h
        · cases h; exact ⟨rfl, .inr ⟨_, _, _, _, rfl⟩⟩
        · cases h
      · split at h
        · cases h; exact ⟨rfl, .inl ⟨_, _, _, rfl⟩⟩
        · cases h
    · cases h
  · cases h
def DSp (P : Program) (N : Nat) (ops : Array Oper) (d : DI) (s : Step) : Prop := match d with
  | .op i => ∃ o, ops[i]? = some o ∧ compStep P N ops o = some s
  | .opA i => ∃ o d g j, ops[i]? = some o ∧ compStep P N ops o = some (.op d g j) ∧ s = .opA d g j i
  | .opR i k => ∃ o d g j, ops[i]? = some o ∧ compStep P N ops o = some (.op d g j) ∧ s = .opR d g j k
  | .chk i => ∃ o d g j, ops[i]? = some o ∧ compStep P N ops o = some (.op (some d) g j) ∧ s = .chk d g j
theorem sp_of {d : DI} {s : Step} {x : It} (hx : itOf d s = some x)
    (hd : DSp P N ops d s) : Sp P N ops x ∧ x.s = s := by
  cases d with
  | op i =>
    obtain ⟨o, h1, h2⟩ := hd
    rcases (compStep_form h2).2 with ⟨d, g, j, rfl⟩ | ⟨d, g, c, xs, rfl⟩
    · simp only [itOf] at hx
      split at hx
      · cases hx
      · rename_i hk; cases hx
        rcases kI_cases j with q | q | q | q
        · exact ⟨⟨o, h1, .inr (.inl ⟨.inl q, d, g, j, h2, rfl, rfl⟩)⟩, rfl⟩
        · exact ⟨⟨o, h1, .inr (.inl ⟨.inr q, d, g, j, h2, rfl, rfl⟩)⟩, rfl⟩
        · exact absurd q hk
        · exact ⟨⟨o, h1, .inl ⟨q, h2, fun _ _ _ q => by cases q⟩⟩, rfl⟩
    · simp only [itOf] at hx; cases hx; exact ⟨⟨o, h1, .inl ⟨rfl, h2, fun _ _ _ q => by cases q⟩⟩, rfl⟩
  | opA i =>
    obtain ⟨o, d, g, j, h1, h2, rfl⟩ := hd
    simp only [itOf] at hx
    split at hx
    · rename_i hk; cases hx; exact ⟨⟨o, h1, .inr (.inr (.inl ⟨rfl, d, g, j, h2, rfl, hk⟩))⟩, rfl⟩
    · cases hx
  | opR i q =>
    obtain ⟨o, d, g, j, h1, h2, rfl⟩ := hd
    simp only [itOf] at hx
    split at hx
    · rename_i hk; cases hx; exact ⟨⟨o, h1, .inr (.inr (.inr (.inl ⟨rfl, d, g, j, h2, rfl, hk⟩)))⟩, rfl⟩
    · cases hx
  | chk i =>
    obtain ⟨o, d, g, j, h1, h2, rfl⟩ := hd
    simp only [itOf] at hx; cases hx; exact ⟨⟨o, h1, .inr (.inr (.inr (.inr ⟨rfl, d, g, j, h2, rfl⟩)))⟩, rfl⟩
theorem its_spec : ∀ (ds : List DI) (ss : List Step) (its : List It), compDI P N ops ds = some ss → itsOf ds ss = some its → its.length = ss.length ∧ ∀ (k : Nat) (x : It), its[k]? = some x → Sp P N ops x ∧ ss[k]? = some x.s := by
  intro ds
  induction ds with
  | nil => intro ss its hc hi; simp only [compDI] at hc; cases hc; simp only [itsOf] at hi; cases hi; exact ⟨rfl, fun k x q => by simp at q⟩
  | cons d ds ih =>
    intro ss its hc hi
    simp only [compDI] at hc
    split at hc
    · cases hc
    · rename_i ss' hss
      have key : ∀ s, ss = s :: ss' → DSp P N ops d s → its.length = ss.length ∧ ∀ (k : Nat) (x : It), its[k]? = some x → Sp P N ops x ∧ ss[k]? = some x.s := by
        intro s hs hd
        subst hs
        simp only [itsOf] at hi
        split at hi
        · rename_i x hx
          split at hi
          · rename_i xs hxs; cases hi
            obtain ⟨g1, g2⟩ := ih ss' xs hss hxs
            obtain ⟨m1, m2⟩ := sp_of hx hd
            refine ⟨by simp [g1], fun k y q => ?_⟩
            cases k with
            | zero => simp at q; subst q; exact ⟨m1, by simp [m2]⟩
            | succ k => simp at q; simpa using g2 k y q
          · cases hi
        · cases hi
      cases d with
      | op i =>
        simp only at hc
        split at hc
        · rename_i o ho
          split at hc
          · rename_i s hs; cases hc; exact key s rfl ⟨o, ho, hs⟩
          · cases hc
        · cases hc
      | opA i =>
        simp only at hc
        split at hc
        · rename_i o ho
          split at hc
          · rename_i d g j hs; cases hc; exact key _ rfl ⟨o, d, g, j, ho, hs, rfl⟩
          · cases hc
        · cases hc
      | opR i q =>
        simp only at hc
        split at hc
        · rename_i o ho
          split at hc
          · rename_i d g j hs; cases hc; exact key _ rfl ⟨o, d, g, j, ho, hs, rfl⟩
          · cases hc
        · cases hc
      | chk i =>
        simp only at hc
        split at hc
        · rename_i o ho
          split at hc
          · rename_i d g j hs; cases hc; exact key _ rfl ⟨o, d, g, j, ho, hs, rfl⟩
          · cases hc
        · cases hc
theorem pairs_spec {b : Array Nat} : ∀ {its : List It}, pairsOK b its = true → ∀ (k1 k2 : Nat) (x y : It), k1 < k2 → its[k1]? = some x → its[k2]? = some y → pairOK b x y = true := by
  intro its
  induction its with
  | nil => intro _ k1 k2 x y _ h; simp at h
  | cons z zs ih =>
    intro h k1 k2 x y hlt h1 h2
    simp only [pairsOK, Bool.and_eq_true, List.all_eq_true] at h
    obtain ⟨k2, rfl⟩ : ∃ m, k2 = m + 1 := ⟨k2 - 1, by omega⟩
    simp at h2
    cases k1 with
    | zero => simp at h1; subst h1; exact h.1 y (List.mem_of_getElem? h2)
    | succ k1 => simp at h1; exact ih h.2 k1 k2 x y (by omega) h1 h2
theorem chkIn_spec : ∀ {its : List It} {i : Nat}, chkIn i its = true → ∃ (k : Nat) (z : It), its[k]? = some z ∧ z.k = 5 ∧ z.i = i ∧ ∀ (m : Nat) (u : It), m < k → its[m]? = some u → u.k = 5 := by
  intro its
  induction its with
  | nil => intro i h; cases h
  | cons y ys ih =>
    intro i h
    simp only [chkIn, Bool.and_eq_true, Bool.or_eq_true, beq_iff_eq] at h
    obtain ⟨h1, h2⟩ := h
    rcases h2 with h2 | h2
    · exact ⟨0, y, rfl, h1, h2, fun m u hm => by omega⟩
    · obtain ⟨k, z, g1, g2, g3, g4⟩ := ih h2
      refine ⟨k + 1, z, by simpa using g1, g2, g3, fun m u hm q => ?_⟩
      cases m with
      | zero => simp at q; subst q; exact h1
      | succ m => simp at q; exact g4 m u (by omega) q
theorem chks_spec {b : Array Nat} : ∀ {its pre : List It}, chksOK b pre its = true → ∀ (k2 : Nat) (x y : It), (x ∈ pre ∨ ∃ k1, k1 < k2 ∧ its[k1]? = some x) → its[k2]? = some y → x.k = 1 → y.k = 3 → isBef b x.i y.i = false →
    ∃ (k3 : Nat) (z : It), k2 < k3 ∧ its[k3]? = some z ∧ z.k = 5 ∧ z.i = x.i ∧ ∀ (m : Nat) (u : It), k2 < m → m < k3 → its[m]? = some u → u.k = 5 := by
  intro its
  induction its with
  | nil => intro pre _ k2 x y _ h; simp at h
  | cons z zs ih =>
    intro pre h k2 x y hx hy hx1 hy3 hb
    simp only [chksOK, Bool.and_eq_true] at h
    cases k2 with
    | zero =>
      simp at hy; subst hy
      have hmem : x ∈ pre := by
        rcases hx with hx | ⟨k1, q, _⟩
        · exact hx
        · omega
      have h1 := h.1
      simp only [hy3, Bool.or_eq_true, List.all_eq_true] at h1
      rcases h1 with h1 | h1
      · simp at h1
      · have := h1 x hmem
        simp only [hx1, hb] at this
        obtain ⟨k, u, g1, g2, g3, g4⟩ := chkIn_spec (by simpa using this)
        refine ⟨k + 1, u, by omega, by simpa using g1, g2, g3, fun m v q1 q2 q3 => ?_⟩
        obtain ⟨m, rfl⟩ : ∃ m', m = m' + 1 := ⟨m - 1, by omega⟩
        simp at q3; exact g4 m v (by omega) q3
    | succ k2 =>
      simp at hy
      obtain ⟨k3, u, g1, g2, g3, g4, g5⟩ := ih h.2 k2 x y (by
        rcases hx with hx | ⟨k1, q1, q2⟩
        · exact .inl (List.mem_cons_of_mem _ hx)
        · cases k1 with
          | zero => simp at q2; subst q2; exact .inl (List.mem_cons_self ..)
          | succ k1 => simp at q2; exact .inr ⟨k1, by omega, q2⟩) hy hx1 hy3 hb
      refine ⟨k3 + 1, u, by omega, by simpa using g2, g3, g4, fun m v q1 q2 q3 => ?_⟩
      obtain ⟨m, rfl⟩ : ∃ m', m = m' + 1 := ⟨m - 1, by omega⟩
      simp at q3; exact g5 m v (by omega) (by omega) q3
def Cl (ops : Array Oper) (S : Nat → Bool) : Prop := ∀ i o, S i = true → ops[i]? = some o → ∀ e ∈ o.after, Region.binds .any e = true → S e.on = true
theorem bef_fold {S : Nat → Bool} (l : List Edge) (acc : Array Nat) : ∀ (s : Nat), (∀ j, s.testBit j = true → S j = true) → (∀ e ∈ l, Region.binds .any e = true → S e.on = true ∧ ∀ j, (acc.getD e.on 0).testBit j = true → S j = true) →
    ∀ j, (l.foldl (fun s e => if Region.binds .any e then s ||| 2 ^ e.on ||| acc.getD e.on 0 else s) s).testBit j = true → S j = true := by
  induction l with
  | nil => intro s h1 _ j hj; exact h1 j hj
  | cons e l ih =>
    intro s h1 h2 j hj
    simp only [List.foldl_cons] at hj
    refine ih _ (fun j hj => ?_) (fun e' he' => h2 e' (List.mem_cons_of_mem _ he')) j hj
    split at hj
    · rename_i hb
      obtain ⟨g1, g2⟩ := h2 e (List.mem_cons_self ..) hb
      rw [Nat.testBit_or, Nat.testBit_or, Bool.or_eq_true, Bool.or_eq_true] at hj
      rcases hj with (hj | hj) | hj
      · exact h1 j hj
      · rw [Nat.testBit_two_pow] at hj
        have : e.on = j := by simpa using hj
        rw [← this]; exact g1
      · exact g2 j hj
    · exact h1 j hj
theorem bef_closed {S : Nat → Bool} (hC : Cl ops S) : ∀ i j, isBef (befs ops) j i = true → S i = true → S j = true := by
  have key : ∀ (l : List Oper) (k : Nat) (acc : Array Nat), acc.size = k → (∀ j, l[j]? = ops[k + j]?) → (∀ i, i < k → S i = true → ∀ j, (acc.getD i 0).testBit j = true → S j = true) →
      ∀ i, S i = true → ∀ j, ((l.foldl (fun acc o => acc.push (o.after.foldl (fun s e => if Region.binds .any e then s ||| 2 ^ e.on ||| acc.getD e.on 0 else s) 0)) acc).getD i 0).testBit j = true → S j = true := by
    intro l
    induction l with
    | nil =>
      intro k acc hk _ h i hi j hj
      by_cases hik : i < k
      · exact h i hik hi j hj
      · simp [Array.getD_eq_getD_getElem?, Array.getElem?_eq_none (by omega : acc.size ≤ i)] at hj
    | cons o l ih =>
      intro k acc hk hl h i hi j hj
      simp only [List.foldl_cons] at hj
      refine ih (k + 1) _ (by simp [hk]) (fun j => by have := hl (j + 1); simpa [Nat.add_assoc, Nat.add_comm 1 j] using this) (fun i hik hi j hj => ?_) i hi j hj
      by_cases hlt : i < k
      · refine h i hlt hi j ?_
        rw [Array.getD_eq_getD_getElem?, Array.getElem?_push, if_neg (by omega)] at hj
        rw [Array.getD_eq_getD_getElem?]; exact hj
      · have e0 : i = k := by omega
        subst e0
        rw [Array.getD_eq_getD_getElem?, Array.getElem?_push, if_pos hk.symm, Option.getD_some] at hj
        have ho : ops[i]? = some o := by have := hl 0; simpa using this.symm
        rw [← Array.foldl_toList] at hj
        refine bef_fold (S := S) o.after.toList acc 0 (fun j q => by simp at q) (fun e he hb => ?_) j hj
        have hSe := hC i o hi ho e (by simpa using he) hb
        refine ⟨hSe, fun j hj => ?_⟩
        by_cases hlt2 : e.on < i
        · exact h e.on hlt2 hSe j hj
        · simp [Array.getD_eq_getD_getElem?, Array.getElem?_eq_none (by omega : acc.size ≤ e.on)] at hj
  intro i j hb hi
  unfold isBef befs Region.before at hb
  rw [← Array.foldl_toList] at hb
  exact key ops.toList 0 #[] rfl (fun j => by simp) (fun i hi => by omega) i hi j hb
end Go.Proofs.Ytkfjlbdedjoojaa.Am
namespace Go.Proofs.Ytkfjlbdedjoojaa.Am
open Go
set_option linter.unusedVariables false
set_option linter.unusedSimpArgs false
def valOf (sig : Nat → Env × H) (k : Nat) : Value := match (sig (k + 1)).1 with | (_, v) :: _ => v | [] => undef
def ES (its : List It) (sig : Nat → Env × H) (S : Nat → Bool) : Nat → Env
  | 0 => (sig 0).1
  | k + 1 => match its[k]? with
    | some x => if x.k ≠ 5 ∧ S x.i = true then put (ES its sig S k) (dS x.s) (valOf sig k) else ES its sig S k
    | none => ES its sig S k
def HS (its : List It) (sig : Nat → Env × H) (rb : Nat) (S : Nat → Bool) : Nat → H
  | 0 => (sig 0).2
  | k + 1 => match its[k]? with
    | some x => if x.k = 3 ∧ S x.i = true then (sig (k + 1)).2 else if x.k = 2 ∧ S x.i = true then (HS its sig rb S k).set (rb + x.i) ((sig (k + 1)).2.get (rb + x.i)) else HS its sig rb S k
    | none => HS its sig rb S k
structure Dr (P : Program) (N : Nat) (ops : Array Oper) (call : CallE) (rb : Nat) (its : List It) (sig : Nat → Env × H) : Prop where
  sp : ∀ (k : Nat) (x : It), its[k]? = some x → Sp P N ops x
  st : ∀ (k : Nat) (x : It), its[k]? = some x → stepE call rb x.s (sig k).1 (sig k).2 = some (sig (k + 1))
  pr : ∀ (k1 k2 : Nat) (x y : It), k1 < k2 → its[k1]? = some x → its[k2]? = some y → pairOK (befs ops) x y = true
  ck : ∀ (k1 k2 : Nat) (x y : It), k1 < k2 → its[k1]? = some x → its[k2]? = some y → x.k = 1 → y.k = 3 → isBef (befs ops) x.i y.i = false →
    ∃ (k3 : Nat) (z : It), k2 < k3 ∧ its[k3]? = some z ∧ z.k = 5 ∧ z.i = x.i ∧ ∀ (m : Nat) (u : It), k2 < m → m < k3 → its[m]? = some u → u.k = 5
  it : ∀ (k : Nat) (x : It), its[k]? = some x → itemOK (befs ops) ops.size its x = true
  all : ∀ i, i < ops.size → ∃ (k : Nat) (x : It), its[k]? = some x ∧ x.k ≠ 5 ∧ x.i = i
  nx : (sig 0).2.next = rb + ops.size
  edge : edgesOK ops = true
variable {P : Program} {N : Nat} {ops : Array Oper} {call : CallE} {rb : Nat} {its : List It} {sig : Nat → Env × H} {S : Nat → Bool}
structure PK (ops : Array Oper) (x y : It) : Prop where
  ne : x.i ≠ y.i
  nb : isBef (befs ops) y.i x.i = false
  ap : isBef (befs ops) x.i y.i = true ∨ ((∀ d, dS x.s = some d → d ∉ tS y.s ∧ dS y.s ≠ some d) ∧ (∀ d, dS y.s = some d → d ∉ tS x.s))
  bb : (x.k = 3 ∧ y.k = 3) ∨ (x.k = 2 ∧ y.k = 3) ∨ (x.k = 3 ∧ y.k = 1) ∨ (x.k = 2 ∧ y.k = 1) → isBef (befs ops) x.i y.i = true
  r1 : x.k = 1 → ∀ d, dS y.s = some d → d ∉ tS x.s ∧ dS x.s ≠ some d
  r2 : y.k = 4 → x.k = 3 → isBef (befs ops) y.q x.i = true → isBef (befs ops) y.i x.i = true
  r3 : x.k = 4 → y.k = 3 → isBef (befs ops) x.q y.i = true → isBef (befs ops) x.i y.i = true
theorem Dr.pk (D : Dr P N ops call rb its sig) {k1 k2 : Nat} {x y : It} (hlt : k1 < k2) (h1 : its[k1]? = some x) (h2 : its[k2]? = some y) (hx : x.k ≠ 5) (hy : y.k ≠ 5) : PK ops x y := by
  have h := D.pr k1 k2 x y hlt h1 h2
  have e1 : (x.k == 5) = false := by simpa using hx
  have e2 : (y.k == 5) = false := by simpa using hy
  simp only [pairOK, e1, e2, Bool.false_or, Bool.and_eq_true] at h
  obtain ⟨⟨⟨⟨⟨⟨g1, g2⟩, g3⟩, g4⟩, g5⟩, g6⟩, g7⟩ := h
  refine ⟨by simpa using g1, by simpa using g2, ?_, fun q => ?_, fun q d hd => ?_, fun q1 q2 q3 => ?_, fun q1 q2 q3 => ?_⟩
  · rw [Bool.or_eq_true] at g3
    refine g3.imp id fun g3 => ?_
    simp only [apartS, Bool.and_eq_true] at g3
    refine ⟨fun d hd => ?_, fun d hd => ?_⟩
    · have := g3.1; rw [hd] at this; simp only [Bool.and_eq_true] at this; exact ⟨by simpa using this.1, by simpa using this.2⟩
    · have := g3.2; rw [hd] at this; simpa using this
  · rw [Bool.or_eq_true] at g4
    refine g4.resolve_left (fun g => ?_)
    rcases q with ⟨q1, q2⟩ | ⟨q1, q2⟩ | ⟨q1, q2⟩ | ⟨q1, q2⟩ <;> simp [q1, q2] at g
  · rw [hd] at g5; simp only [q, Bool.or_eq_true, Bool.and_eq_true] at g5
    rcases g5 with g5 | g5
    · simp at g5
    · exact ⟨by simpa using g5.1, by simpa using g5.2⟩
  · simpa [q1, q2, q3] using g6
  · simpa [q1, q2, q3] using g7
theorem Dr.uniq (D : Dr P N ops call rb its sig) {k1 k2 : Nat} {x y : It} (h1 : its[k1]? = some x) (h2 : its[k2]? = some y) (hx : x.k ≠ 5) (hy : y.k ≠ 5) (he : x.i = y.i) : k1 = k2 := by
  rcases Nat.lt_trichotomy k1 k2 with h | h | h
  · exact absurd he (D.pk h h1 h2 hx hy).ne
  · exact h
  · exact absurd he.symm (D.pk h h2 h1 hy hx).ne
theorem Dr.env (D : Dr P N ops call rb its sig) {k : Nat} {x : It} (h : its[k]? = some x) (hx : x.k ≠ 5) : (sig (k + 1)).1 = put (sig k).1 (dS x.s) (valOf sig k) ∧ (∀ d g i, x.s ≠ .chk d g i) := by
  have hn : ∀ d g i, x.s ≠ .chk d g i := fun d g i q => by
    obtain ⟨o, _, hk⟩ := D.sp k x h
    rcases hk with ⟨_, _, q'⟩ | ⟨_, _, _, _, _, q', _⟩ | ⟨_, _, _, _, _, q', _⟩ | ⟨_, _, _, _, _, q', _⟩ | ⟨q', _⟩
    · exact q' _ _ _ q
    · rw [q] at q'; cases q'
    · rw [q] at q'; cases q'
    · rw [q] at q'; cases q'
    · exact hx q'
  obtain ⟨v, g1, _⟩ := stepE_same (e := (sig k).1) (e' := (sig k).1) (fun t _ => rfl) hn (D.st k x h)
  refine ⟨?_, hn⟩
  cases hd : dS x.s with
  | none => rw [g1, hd]; rfl
  | some d =>
    have : valOf sig k = v := by
      unfold valOf; rw [g1, hd]; rfl
    rw [g1, hd, this]
theorem Dr.chk (D : Dr P N ops call rb its sig) {k : Nat} {x : It} (h : its[k]? = some x) (hx : x.k = 5) : sig (k + 1) = sig k := by
  obtain ⟨o, _, hk⟩ := D.sp k x h
  rcases hk with ⟨q, _⟩ | ⟨q, _⟩ | ⟨q, _⟩ | ⟨q, _⟩ | ⟨_, d, g, j, _, hs⟩
  · omega
  · omega
  · omega
  · omega
  · have E := D.st k x h
    rw [hs] at E
    simp only [stepE] at E
    split at E
    · split at E
      · split at E
        · split at E
          · exact (Option.some.inj E).symm
          · cases E
        · cases E
      · cases E
    · exact (Option.some.inj E).symm
    · cases E
theorem Dr.heap (D : Dr P N ops call rb its sig) {k : Nat} {x : It} (h : its[k]? = some x) (h2 : x.k ≠ 2) (h3 : x.k ≠ 3) : (sig (k + 1)).2 = (sig k).2 := by
  by_cases h5 : x.k = 5
  · rw [D.chk h h5]
  · obtain ⟨o, _, hk⟩ := D.sp k x h
    have E := D.st k x h
    rcases hk with ⟨q, _⟩ | ⟨q, d, g, j, _, hs, hj⟩ | ⟨q, _⟩ | ⟨q, d, g, j, _, hs, hj⟩ | ⟨q, _⟩
    · exact absurd q h3
    · rw [hs] at E
      simp only [stepE] at E
      split at E
      · split at E
        · rename_i v h' hop
          have e1 := Option.some.inj E
          rw [← e1]
          rcases q with q | q
          · exact (opE_k0 (hj.trans q) hop).1
          · exact (opE_k1 (hj.trans q) hop).1
        · cases E
      · rw [← Option.some.inj E]
      · cases E
    · exact absurd q h2
    · rw [hs] at E
      simp only [stepE] at E
      split at E
      · split at E
        · split at E
          · split at E
            · rw [← Option.some.inj E]
            · cases E
          · cases E
        · cases E
      · rw [← Option.some.inj E]
      · cases E
    · exact absurd q h5
theorem Dr.heapA (D : Dr P N ops call rb its sig) {k : Nat} {x : It} (h : its[k]? = some x) (h2 : x.k = 2) : (sig (k + 1)).2.next = (sig k).2.next ∧ ∀ n, n ≠ rb + x.i → (sig (k + 1)).2.get n = (sig k).2.get n := by
  obtain ⟨o, _, hk⟩ := D.sp k x h
  have E := D.st k x h
  rcases hk with ⟨q, _⟩ | ⟨q, _⟩ | ⟨q, d, g, j, _, hs, hj⟩ | ⟨q, _⟩ | ⟨q, _⟩
  · omega
  · omega
  · rw [hs] at E
    simp only [stepE] at E
    split at E
    · split at E
      · rename_i v h' hop
        obtain ⟨B, rfl, _⟩ := opE_k2 hj hop
        rw [← Option.some.inj E]
        exact ⟨rfl, fun n hn => H.get_set_ne _ _ hn⟩
      · cases E
    · rw [← Option.some.inj E]; exact ⟨rfl, fun _ _ => rfl⟩
    · cases E
  · omega
  · omega
theorem look_put_ne {e : Env} {d : Option Nat} {v : Value} {t : Nat} (h : d ≠ some t) : look (put e d v) t = look e t := by
  cases d with
  | none => rfl
  | some d => simp only [put, look]; rw [if_neg (fun q => h (by rw [q]))]
theorem look_put_same {e : Env} {v : Value} {t : Nat} : look (put e (some t) v) t = some v := by simp [put, look]
theorem ES_pre (D : Dr P N ops call rb its sig) {k : Nat} {x : It} (hk : its[k]? = some x) (hx : x.k ≠ 5) (hcl : ∀ j, isBef (befs ops) j x.i = true → S j = true ∨ j = x.i) (hS : S x.i = false) {t : Nat} (ht : t ∈ tS x.s) :
    ∀ m, m ≤ k → look (ES its sig S m) t = look (sig m).1 t := by
  intro m
  induction m with
  | zero => intro _; rfl
  | succ m ih =>
    intro hm
    have hm' := ih (by omega)
    simp only [ES]
    cases hy : its[m]? with
    | none =>
      have : its.length ≤ m := by simpa using hy
      have : k < its.length := (List.getElem?_eq_some_iff.1 hk).1
      omega
    | some y =>
      simp only
      by_cases h5 : y.k = 5
      · rw [if_neg (fun q => q.1 h5), hm', D.chk hy h5]
      · obtain ⟨g1, _⟩ := D.env hy h5
        by_cases hs : S y.i = true
        · rw [if_pos ⟨h5, hs⟩, g1]
          by_cases hd : dS y.s = some t
          · rw [hd, look_put_same, look_put_same]
          · rw [look_put_ne hd, look_put_ne hd, hm']
        · rw [if_neg (fun q => hs q.2), hm', g1]
          have hp := D.pk (by omega : m < k) hy hk h5 hx
          have hnb : ¬ isBef (befs ops) y.i x.i = true := fun q => by
            rcases hcl _ q with q | q
            · exact hs q
            · exact hp.ne q
          have := (hp.ap.resolve_left hnb).1
          rw [look_put_ne (fun q => (this t q).1 ht)]
theorem ES_post {k : Nat} {t : Nat} : ∀ m, k ≤ m → (∀ (p : Nat) (y : It), k ≤ p → p < m → its[p]? = some y → y.k ≠ 5 → S y.i = true → dS y.s ≠ some t) → look (ES its sig S m) t = look (ES its sig S k) t := by
  intro m
  induction m with
  | zero => intro h _; obtain rfl : k = 0 := by omega
            rfl
  | succ m ih =>
    intro h hq
    by_cases hkm : k = m + 1
    · subst hkm; rfl
    · have hm := ih (by omega) (fun p y h1 h2 => hq p y h1 (by omega))
      simp only [ES]
      cases hy : its[m]? with
      | none => exact hm
      | some y =>
        simp only
        split
        · rename_i hc; rw [look_put_ne (hq m y (by omega) (by omega) hy hc.1 hc.2)]; exact hm
        · exact hm
theorem ES_look (D : Dr P N ops call rb its sig) (hC : Cl ops S) {k : Nat} {x : It} (hk : its[k]? = some x) (hx : x.k ≠ 5) (hcl : ∀ j, isBef (befs ops) j x.i = true → S j = true ∨ j = x.i) (hS : S x.i = false) {t : Nat} (ht : t ∈ tS x.s) :
    look (ES its sig S its.length) t = look (sig k).1 t := by
  have hlen : k < its.length := (List.getElem?_eq_some_iff.1 hk).1
  rw [ES_post (k := k) its.length (by omega) (fun p y h1 h2 h3 h5 hs => ?_)]
  · exact ES_pre D hk hx hcl hS ht k (Nat.le_refl _)
  · have hpk : p ≠ k := fun q => by subst q; rw [hk] at h3; cases h3; rw [hS] at hs; cases hs
    have hp := D.pk (by omega : k < p) hk h3 hx h5
    have hnb : ¬ isBef (befs ops) x.i y.i = true := fun q => by
      have := bef_closed hC _ _ q hs; rw [hS] at this; cases this
    exact fun q => (hp.ap.resolve_left hnb).2 t q ht
def plus (S : Nat → Bool) (i : Nat) : Nat → Bool := fun j => S j || j == i
theorem plus_self (S : Nat → Bool) (i : Nat) : plus S i i = true := by simp [plus]
theorem plus_ne (S : Nat → Bool) {i j : Nat} (h : j ≠ i) : plus S i j = S j := by simp [plus, h]
theorem ES_plus_pre (D : Dr P N ops call rb its sig) {k : Nat} {x : It} (hk : its[k]? = some x) (hx : x.k ≠ 5) : ∀ m, m ≤ k → ES its sig (plus S x.i) m = ES its sig S m := by
  intro m
  induction m with
  | zero => intro _; rfl
  | succ m ih =>
    intro hm
    simp only [ES, ih (by omega)]
    cases hy : its[m]? with
    | none => rfl
    | some y =>
      simp only
      by_cases h5 : y.k = 5
      · rw [if_neg (fun q => q.1 h5), if_neg (fun q => q.1 h5)]
      · have hne := (D.pk (by omega : m < k) hy hk h5 hx).ne
        rw [plus_ne S hne]
theorem ES_plus (D : Dr P N ops call rb its sig) (hC : Cl ops S) {k : Nat} {x : It} (hk : its[k]? = some x) (hx : x.k ≠ 5) (hS : S x.i = false) (t : Nat) :
    look (ES its sig (plus S x.i) its.length) t = if dS x.s = some t then some (valOf sig k) else look (ES its sig S its.length) t := by
  have hlen : k < its.length := (List.getElem?_eq_some_iff.1 hk).1
  have key : ∀ m, k + 1 ≤ m → (dS x.s = some t → look (ES its sig (plus S x.i) m) t = some (valOf sig k)) ∧ (dS x.s ≠ some t → look (ES its sig (plus S x.i) m) t = look (ES its sig S m) t) := by
    intro m
    induction m with
    | zero => intro h; omega
    | succ m ih =>
      intro hm
      by_cases hkm : m = k
      · subst hkm
        have hno : ¬ (x.k ≠ 5 ∧ S x.i = true) := fun q => by rw [hS] at q; exact absurd q.2 (by simp)
        have e1 : ES its sig (plus S x.i) (m + 1) = put (ES its sig S m) (dS x.s) (valOf sig m) := by
          simp only [ES, hk]; rw [if_pos ⟨hx, plus_self S x.i⟩, ES_plus_pre D hk hx m (Nat.le_refl _)]
        have e2 : ES its sig S (m + 1) = ES its sig S m := by simp only [ES, hk]; rw [if_neg hno]
        rw [e1, e2]
        exact ⟨fun hd => by rw [hd, look_put_same], fun hd => look_put_ne hd⟩
      · have hm' := ih (by omega)
        cases hy : its[m]? with
        | none => simp only [ES, hy]; exact hm'
        | some y =>
          by_cases h5 : y.k = 5
          · have e1 : ∀ S', ES its sig S' (m + 1) = ES its sig S' m := fun S' => by simp only [ES, hy]; rw [if_neg (fun q => q.1 h5)]
            rw [e1, e1]; exact hm'
          · have hp := D.pk (by omega : k < m) hk hy hx h5
            by_cases hs : S y.i = true
            · have e1 : ES its sig S (m + 1) = put (ES its sig S m) (dS y.s) (valOf sig m) := by simp only [ES, hy]; rw [if_pos ⟨h5, hs⟩]
              have e2 : ES its sig (plus S x.i) (m + 1) = put (ES its sig (plus S x.i) m) (dS y.s) (valOf sig m) := by simp only [ES, hy]; rw [if_pos ⟨h5, by rw [plus_ne S hp.ne.symm]; exact hs⟩]
              rw [e1, e2]
              have hnb : ¬ isBef (befs ops) x.i y.i = true := fun q => by
                have := bef_closed hC _ _ q hs; rw [hS] at this; cases this
              have hap := (hp.ap.resolve_left hnb).1
              by_cases hd : dS y.s = some t
              · refine ⟨fun q => absurd hd (hap t q).2, fun _ => ?_⟩
                rw [hd, look_put_same, look_put_same]
              · rw [look_put_ne hd, look_put_ne hd]; exact hm'
            · have e1 : ES its sig S (m + 1) = ES its sig S m := by simp only [ES, hy]; rw [if_neg (fun q => hs q.2)]
              have e2 : ES its sig (plus S x.i) (m + 1) = ES its sig (plus S x.i) m := by simp only [ES, hy]; rw [if_neg (fun q => hs (by rw [← plus_ne S hp.ne.symm]; exact q.2))]
              rw [e1, e2]; exact hm'
  have := key its.length (by omega)
  split
  · rename_i q; exact this.1 q
  · rename_i q; exact this.2 q
theorem HS_pre (D : Dr P N ops call rb its sig) {k : Nat} : ∀ m, m ≤ k → (∀ (p : Nat) (y : It), p < k → its[p]? = some y → (y.k = 2 ∨ y.k = 3) → S y.i = true) → k ≤ its.length →
    (HS its sig rb S m).next = (sig m).2.next ∧ ∀ n, (HS its sig rb S m).get n = (sig m).2.get n := by
  intro m
  induction m with
  | zero => intro _ _ _; exact ⟨rfl, fun _ => rfl⟩
  | succ m ih =>
    intro hm hq hl
    obtain ⟨i1, i2⟩ := ih (by omega) hq hl
    simp only [HS]
    cases hy : its[m]? with
    | none => have : its.length ≤ m := by simpa using hy
              omega
    | some y =>
      simp only
      by_cases h3 : y.k = 3
      · rw [if_pos ⟨h3, hq m y (by omega) hy (.inr h3)⟩]; exact ⟨rfl, fun _ => rfl⟩
      · rw [if_neg (fun q => h3 q.1)]
        by_cases h2 : y.k = 2
        · rw [if_pos ⟨h2, hq m y (by omega) hy (.inl h2)⟩]
          obtain ⟨a1, a2⟩ := D.heapA hy h2
          refine ⟨by rw [H.next_set, i1, a1], fun n => ?_⟩
          rw [H.get_set]
          split
          · rename_i e; rw [e]
          · rename_i e; rw [i2, a2 n e]
        · rw [if_neg (fun q => h2 q.1), D.heap hy h2 h3]; exact ⟨i1, i2⟩
theorem HS_tail (D : Dr P N ops call rb its sig) {k : Nat} : ∀ m, k ≤ m → (∀ (p : Nat) (y : It), k ≤ p → p < m → its[p]? = some y → y.k = 3 → S y.i = false) →
    (HS its sig rb S m).next = (HS its sig rb S k).next ∧ ∀ n, (∃ (p : Nat) (y : It), k ≤ p ∧ p < m ∧ its[p]? = some y ∧ y.k = 2 ∧ S y.i = true ∧ n = rb + y.i ∧ (HS its sig rb S m).get n = (sig (p + 1)).2.get n) ∨
      ((∀ (p : Nat) (y : It), k ≤ p → p < m → its[p]? = some y → y.k = 2 → S y.i = true → n ≠ rb + y.i) ∧ (HS its sig rb S m).get n = (HS its sig rb S k).get n) := by
  intro m
  induction m with
  | zero => intro h _; obtain rfl : k = 0 := by omega
            exact ⟨rfl, fun n => .inr ⟨fun p y h1 h2 => by omega, rfl⟩⟩
  | succ m ih =>
    intro h hq
    by_cases hkm : k = m + 1
    · subst hkm; exact ⟨rfl, fun n => .inr ⟨fun p y h1 h2 => by omega, rfl⟩⟩
    · obtain ⟨i1, i2⟩ := ih (by omega) (fun p y h1 h2 => hq p y h1 (by omega))
      simp only [HS]
      cases hy : its[m]? with
      | none =>
        refine ⟨i1, fun n => ?_⟩
        rcases i2 n with ⟨p, y, g1, g2, g3⟩ | ⟨g1, g2⟩
        · exact .inl ⟨p, y, g1, by omega, g3⟩
        · refine .inr ⟨fun p y q1 q2 q3 => ?_, g2⟩
          by_cases hpm : p = m
          · subst hpm; rw [hy] at q3; cases q3
          · exact g1 p y q1 (by omega) q3
      | some y =>
        simp only
        have h3 : ¬ (y.k = 3 ∧ S y.i = true) := fun q => by
          have := hq m y (by omega) (by omega) hy q.1; rw [this] at q; exact absurd q.2 (by simp)
        rw [if_neg h3]
        by_cases h2 : y.k = 2 ∧ S y.i = true
        · rw [if_pos h2]
          refine ⟨i1, fun n => ?_⟩
          rw [H.get_set]
          by_cases hn : n = rb + y.i
          · rw [if_pos hn]; exact .inl ⟨m, y, by omega, by omega, hy, h2.1, h2.2, hn, by rw [hn]⟩
          · rw [if_neg hn]
            rcases i2 n with ⟨p, z, g1, g2, g3⟩ | ⟨g1, g2⟩
            · exact .inl ⟨p, z, g1, by omega, g3⟩
            · refine .inr ⟨fun p z q1 q2 q3 q4 q5 => ?_, g2⟩
              by_cases hpm : p = m
              · subst hpm; rw [hy] at q3; cases q3; exact hn
              · exact g1 p z q1 (by omega) q3 q4 q5
        · rw [if_neg h2]
          refine ⟨i1, fun n => ?_⟩
          rcases i2 n with ⟨p, z, g1, g2, g3⟩ | ⟨g1, g2⟩
          · exact .inl ⟨p, z, g1, by omega, g3⟩
          · refine .inr ⟨fun p z q1 q2 q3 q4 q5 => ?_, g2⟩
            by_cases hpm : p = m
            · subst hpm; rw [hy] at q3; cases q3; exact absurd ⟨q4, q5⟩ h2
            · exact g1 p z q1 (by omega) q3 q4 q5
theorem HS_plus_pre (D : Dr P N ops call rb its sig) {k : Nat} {x : It} (hk : its[k]? = some x) (hx : x.k ≠ 5) : ∀ m, m ≤ k → HS its sig rb (plus S x.i) m = HS its sig rb S m := by
  intro m
  induction m with
  | zero => intro _; rfl
  | succ m ih =>
    intro hm
    simp only [HS, ih (by omega)]
    cases hy : its[m]? with
    | none => rfl
    | some y =>
      simp only
      by_cases h5 : y.k = 5
      · rw [if_neg (fun q => by omega), if_neg (fun q => by omega), if_neg (fun q => by omega), if_neg (fun q => by omega)]
      · have hne := (D.pk (by omega : m < k) hy hk h5 hx).ne
        rw [plus_ne S hne]
theorem HS_plus_same (D : Dr P N ops call rb its sig) {k : Nat} {x : It} (hk : its[k]? = some x) (hx : x.k ≠ 5) (h2 : x.k ≠ 2) (h3 : x.k ≠ 3) : ∀ m, HS its sig rb (plus S x.i) m = HS its sig rb S m := by
  intro m
  induction m with
  | zero => rfl
  | succ m ih =>
    simp only [HS, ih]
    cases hy : its[m]? with
    | none => rfl
    | some y =>
      simp only
      by_cases hmk : m = k
      · subst hmk; rw [hk] at hy; cases hy
        rw [if_neg (fun q => h3 q.1), if_neg (fun q => h2 q.1), if_neg (fun q => h3 q.1), if_neg (fun q => h2 q.1)]
      · by_cases h5 : y.k = 5
        · rw [if_neg (fun q => by omega), if_neg (fun q => by omega), if_neg (fun q => by omega), if_neg (fun q => by omega)]
        · have hne : y.i ≠ x.i := fun q => hmk (D.uniq hy hk h5 hx q)
          rw [plus_ne S hne]
end Go.Proofs.Ytkfjlbdedjoojaa.Am
namespace Go.Proofs.Ytkfjlbdedjoojaa.Am
open Go
set_option linter.unusedVariables false
set_option linter.unusedSimpArgs false
variable {P : Program} {N : Nat} {ops : Array Oper} {call : CallE} {rb : Nat} {its : List It} {sig : Nat → Env × H} {S : Nat → Bool} {base : Nat} {r0 : Rho} {h0 : H} {w0 : World}
theorem wp_const {X : Prop} {o : Oper} {a : Act} {w : World} (h : if Region.wanted o (yielded ops a.tmps) then o.wp P a w (fun _ _ => X) (fun _ _ _ => False) ∨ (o.asks P a w ∧ LetsOut (fun _ _ _ => False)) else X) : X := by
  split at h
  · rcases h with h | ⟨_, _, _, h⟩
    · unfold Oper.wp at h
      generalize (execOp a.eval o).run P w = res at h
      cases res with
      | ok n w' =>
        cases n <;> simp only [Oper.upon] at h <;> try (first | exact h | exact h.elim)
        case enter f args =>
          obtain ⟨e, w2, fr, hR, _⟩ := h []
          cases e with
          | returned v => exact hR
          | panicked c => exact hR.elim
          | outgrown => obtain ⟨_, _, q⟩ := hR; exact q.elim
        case row row args =>
          obtain ⟨v, w2, hR, _⟩ := h default []
          exact hR
      | halt x w' => cases x <;> simp only [Oper.upon] at h
    · exact h.elim
  · exact h
theorem step_exists (hcall : SoundC P call) {r : Rho} {e e2 : Env} {h h2 : H} {a : Act} {w : World} {o : Oper} {s : Step} (hs : compStep P N ops o = some s) (E : stepE call rb s e h = some (e2, h2)) (he : EnvR r e a.tmps) (R : Rel base r h w) (hsz : a.tmps.size = N) :
    ∃ v v' r2 w2, e2 = put e o.dst v ∧ VR r2 v v' ∧ Rel base r2 h2 w2 ∧ Fr base r h w r2 h2 w2 ∧ Fsh none r h r2 :=
  wp_const (P := P) (ops := ops) (o := o) (a := a) (w := w) (step_core hcall hs E he R hsz fun v v' r2 w2 h1 h2 h3 h4 h5 => ⟨v, v', r2, w2, h1, h2, h3, h4, h5⟩)
theorem compStep_op {o : Oper} {d : Option Nat} {g : Option (Nat × Bool)} {j : IOp} (h : compStep P N ops o = some (.op d g j)) : d = o.dst ∧ guardC ops o = some g ∧ nckC P ops o.op = some j := by
  unfold compStep at h
  split at h
  · split at h
    · rename_i g' hg
      split at h
      · split at h
        · cases h
        · cases h
      · split at h
        · rename_i i hi; cases h; exact ⟨rfl, hg, hi⟩
        · cases h
    · cases h
  · cases h
def Wit (base N rb : Nat) (ops : Array Oper) (its : List It) (sig : Nat → Env × H) (k : Nat) : Prop := ∃ (r : Rho) (a : Act) (w : World), EnvR r (sig k).1 a.tmps ∧ a.tmps.size = N ∧ Rel base r (sig k).2 w ∧ rb + ops.size ≤ (sig k).2.next ∧
  ∀ (p : Nat) (x : It), k ≤ p → its[p]? = some x → x.k = 2 → r (rb + x.i) = none
theorem Dr.lt (D : Dr P N ops call rb its sig) {k : Nat} {x : It} (h : its[k]? = some x) : x.i < ops.size := by
  have := D.it k x h
  simp only [itemOK, Bool.and_eq_true, decide_eq_true_eq] at this
  exact this.1.1
theorem wit (D : Dr P N ops call rb its sig) (hcall : SoundC P call) (h0 : Wit base N rb ops its sig 0) : ∀ k, k ≤ its.length → Wit base N rb ops its sig k := by
  intro k
  induction k with
  | zero => intro _; exact h0
  | succ k ih =>
    intro hk
    obtain ⟨r, a, w, he, hsz, R, hn, hp⟩ := ih (by omega)
    have hx : its[k]? = some its[k] := List.getElem?_eq_getElem (by omega)
    generalize its[k] = x at hx
    by_cases h5 : x.k = 5
    · unfold Wit; rw [D.chk hx h5]; exact ⟨r, a, w, he, hsz, R, hn, fun p y q => hp p y (by omega)⟩
    · obtain ⟨g1, _⟩ := D.env hx h5
      obtain ⟨o, ho, hcase⟩ := D.sp k x hx
      have E := D.st k x hx
      have fin : ∀ {r2 : Rho} {w2 : World} {v v' : Value}, (sig (k + 1)).1 = put (sig k).1 o.dst v → okDst N o.dst = true → r.le r2 → VR r2 v v' → Rel base r2 (sig (k + 1)).2 w2 → (sig k).2.next ≤ (sig (k + 1)).2.next → (∀ (p : Nat) (y : It), k + 1 ≤ p → its[p]? = some y → y.k = 2 → r2 (rb + y.i) = none) → Wit base N rb ops its sig (k + 1) :=
        fun {r2 w2 v v'} q1 q2 q3 q4 q5 q6 q7 => by
          refine ⟨r2, a.put o.dst v', w2, ?_, by rw [size_put]; exact hsz, q5, by omega, q7⟩
          rw [q1]; exact (he.mono q3).put q4 (by rw [hsz]; exact q2)
      have pend : ∀ {r2 : Rho}, Fsh none r (sig k).2 r2 → ∀ (p : Nat) (y : It), k + 1 ≤ p → its[p]? = some y → y.k = 2 → r2 (rb + y.i) = none := fun {r2} f p y q1 q2 q3 =>
        f _ (by have := D.lt q2; omega) (by simp) (hp p y (by omega) q2 q3)
      have plain : compStep P N ops o = some x.s → Wit base N rb ops its sig (k + 1) := fun hs => by
        obtain ⟨v, v', r2, w2, m1, m2, m3, m4, m5⟩ := step_exists hcall hs E he R hsz
        exact fin m1 (compStep_dst hs) m4.le m2 m3 m4.next (pend m5)
      rcases hcase with ⟨_, hs, _⟩ | ⟨_, d, g, j, hs, _⟩ | ⟨h2, d, g, j, hs, hxs, hj⟩ | ⟨h4, d, g, j, hs, hxs, hj⟩ | ⟨q, _⟩
      · exact plain hs
      · exact plain hs
      · obtain ⟨rfl, hg, hnc⟩ := compStep_op hs
        rw [hxs] at E
        simp only [stepE] at E
        split at E
        · split at E
          · rename_i v h3 hop
            have e1 := Option.some.inj E
            obtain ⟨r2, w2, v', _, m2, m3, m4, m5⟩ := nckC_sound hnc R he (nm := some (rb + x.i)) (fun n q => by cases q; exact ⟨by have := D.lt hx; omega, hp k x (Nat.le_refl _) hx h2⟩) hop
            refine fin (v := v) (v' := v') (by rw [← e1]) (compStep_dst hs) m4.le m2 (by rw [← e1]; exact m3) (by rw [← e1]; exact m4.next) (fun p y q1 q2 q3 => ?_)
            refine m5 _ (by have := D.lt q2; omega) (fun q => ?_) (hp p y (by omega) q2 q3)
            have he0 : x.i = y.i := by have := Option.some.inj q; omega
            have := D.uniq hx q2 h5 (by omega) he0
            omega
          · cases E
        · have e1 := Option.some.inj E
          exact fin (r2 := r) (w2 := w) (v := undef) (v' := undef) (by rw [← e1]) (compStep_dst hs) (Rho.le_refl r) .undef (by rw [← e1]; exact R) (by rw [← e1]; exact Nat.le_refl _) (fun p y q1 q2 q3 => hp p y (by omega) q2 q3)
        · cases E
      · obtain ⟨rfl, hg, hnc⟩ := compStep_op hs
        rw [hxs] at E
        simp only [stepE] at E
        split at E
        · split at E
          · split at E
            · split at E
              · rename_i v h3 hop
                have e1 := Option.some.inj E
                obtain ⟨r2, w2, v', _, m2, m3, m4, m5⟩ := nckC_sound hnc R he (nm := none) (fun n q => by cases q) hop
                have e2 := (opE_k1 hj hop).1
                subst e2
                exact fin (v := v) (v' := v') (by rw [← e1]) (compStep_dst hs) m4.le m2 (by rw [← e1]; exact m3) (by rw [← e1]; exact m4.next) (pend m5)
              · cases E
            · cases E
          · cases E
        · have e1 := Option.some.inj E
          exact fin (r2 := r) (w2 := w) (v := undef) (v' := undef) (by rw [← e1]) (compStep_dst hs) (Rho.le_refl r) .undef (by rw [← e1]; exact R) (by rw [← e1]; exact Nat.le_refl _) (fun p y q1 q2 q3 => hp p y (by omega) q2 q3)
        · cases E
      · exact absurd q h5
theorem Wit.none {k : Nat} (W : Wit base N rb ops its sig k) {p : Nat} {x : It} (hp : k ≤ p) (hx : its[p]? = some x) (h2 : x.k = 2) : (sig k).2.get (rb + x.i) = none := by
  obtain ⟨r, a, w, _, _, R, _, q⟩ := W
  cases hg : (sig k).2.get (rb + x.i) with
  | none => rfl
  | some B => obtain ⟨L, _, _, _, g, _⟩ := R.cells _ B hg; rw [q p x hp hx h2] at g; cases g
structure Inv (P : Program) (N rb : Nat) (ops : Array Oper) (its : List It) (sig : Nat → Env × H) (base : Nat) (r0 : Rho) (h0 : H) (w0 : World) (S : Nat → Bool) (r : Rho) (a : Act) (w : World) : Prop where
  env : EnvR r (ES its sig S its.length) a.tmps
  rel : Rel base r (HS its sig rb S its.length) w
  fr : Fr base r0 h0 w0 r (HS its sig rb S its.length) w
  fsh : Fsh none r0 h0 r
  pend : ∀ (k : Nat) (x : It), its[k]? = some x → x.k = 2 → S x.i = false → r (rb + x.i) = none
  defers : a.defers = []
  size : a.tmps.size = N
  next : rb + ops.size ≤ (HS its sig rb S its.length).next
theorem look_norm {e : Env} : ∀ {l : List Nat} {t : Nat}, t ∈ l → look (norm l e) t = look e t := by
  intro l
  induction l with
  | nil => intro t h; cases h
  | cons u l ih =>
    intro t h
    simp only [norm]
    by_cases hut : u = t
    · subst hut
      split
      · rename_i v hv; simp [look, hv]
      · rename_i hv
        rw [hv]
        by_cases hm : u ∈ l
        · rw [ih hm, hv]
        · have : ∀ (l : List Nat), u ∉ l → look (norm l e) u = none := by
            intro l
            induction l with
            | nil => intro _; rfl
            | cons z l ih =>
              intro hz
              simp only [norm]
              split
              · simp only [look]; rw [if_neg (fun q => hz (by simp [q]))]; exact ih (fun q => hz (List.mem_cons_of_mem _ q))
              · exact ih (fun q => hz (List.mem_cons_of_mem _ q))
          exact this l hm
    · have hm : t ∈ l := by
        rcases List.mem_cons.1 h with q | q
        · exact absurd q.symm hut
        · exact q
      split
      · simp only [look]; rw [if_neg hut]; exact ih hm
      · exact ih hm
theorem Rel.congr {r : Rho} {h h' : H} {w : World} (R : Rel base r h w) (hg : ∀ n, h'.get n = h.get n) (hn : h'.next = h.next) : Rel base r h' w :=
  R.sub (fun n B e => by rw [← hg]; exact e) (by omega)
theorem Fr.congr {r0 r : Rho} {h0 h h' : H} {w0 w : World} (F : Fr base r0 h0 w0 r h w) (hg : ∀ n, h'.get n = h.get n) (hn : h'.next = h.next) : Fr base r0 h0 w0 r h' w :=
  ⟨F.le, by rw [hn]; exact F.next, F.size, F.os, F.tape, F.output, F.keep, fun n B L e => F.cov n B L (by rw [← hg]; exact e)⟩
theorem env_new (D : Dr P N ops call rb its sig) (hC : Cl ops S) {k : Nat} {x : It} (hk : its[k]? = some x) (hx : x.k ≠ 5) (hS : S x.i = false) {r r2 : Rho} {a : Act} (he : EnvR r (ES its sig S its.length) a.tmps) (hle : r.le r2) {o : Oper} (hd : dS x.s = o.dst)
    (hok : okDst a.tmps.size o.dst = true) {v' : Value} (hv : ∀ d, o.dst = some d → VR r2 (valOf sig k) v') : EnvR r2 (ES its sig (plus S x.i) its.length) (a.put o.dst v').tmps := by
  intro t u hu
  rw [ES_plus D hC hk hx hS t, hd] at hu
  split at hu
  · rename_i hdt; cases hu
    rw [hdt] at hok
    simp only [okDst, decide_eq_true_eq] at hok
    refine ⟨v', ?_, hv t hdt⟩
    simp only [hdt, Act.put]; rw [Array.getElem?_setIfInBounds_self_of_lt hok]
  · rename_i hdt
    obtain ⟨u', q1, q2⟩ := he t u hu
    refine ⟨u', ?_, q2.mono hle⟩
    cases hod : o.dst with
    | none => exact q1
    | some d =>
      simp only [Act.put]
      rw [Array.getElem?_setIfInBounds_ne (fun q => hdt (by rw [hod, q]))]; exact q1
end Go.Proofs.Ytkfjlbdedjoojaa.Am
namespace Go.Proofs.Ytkfjlbdedjoojaa.Am
open Go
set_option linter.unusedVariables false
set_option linter.unusedSimpArgs false
variable {P : Program} {N : Nat} {ops : Array Oper} {call : CallE} {rb : Nat} {its : List It} {sig : Nat → Env × H} {S : Nat → Bool} {base : Nat} {r0 : Rho} {h0 : H} {w0 : World}
theorem quiet_step (D : Dr P N ops call rb its sig) (hC : Cl ops S) {k : Nat} {x : It} (hk : its[k]? = some x) (hx : x.k ≠ 5) (h2 : x.k ≠ 2) (h3 : x.k ≠ 3) (hS : S x.i = false) {r : Rho} {a : Act} {w : World}
    (I : Inv P N rb ops its sig base r0 h0 w0 S r a w) {o : Oper} {d : Option Nat} {g : Option (Nat × Bool)} {j : IOp} (hs : compStep P N ops o = some (.op d g j)) (hd : dS x.s = o.dst) {e' : Env} (he' : EnvR r e' a.tmps) {c : Bool} (hgd : gd e' g = some c)
    {v : Value} (hv : ∀ q, o.dst = some q → valOf sig k = v) (h1 : c = true → opE j e' (HS its sig rb S its.length) none = some (v, HS its sig rb S its.length)) (h0' : c = false → v = undef)
    {K : Act → World → Prop} {Q : Exit → Act → World → Prop} (hK : ∀ r2 a2 w2, Inv P N rb ops its sig base r0 h0 w0 (plus S x.i) r2 a2 w2 → K a2 w2) :
    if Region.wanted o (yielded ops a.tmps) then o.wp P a w K Q ∨ (o.asks P a w ∧ LetsOut Q) else K (a.put o.dst undef) w := by
  obtain ⟨rfl, hg, hnc⟩ := compStep_op hs
  have hdst := compStep_dst hs
  rw [gd_sound he' hg hgd]
  have hH : ∀ m, HS its sig rb (plus S x.i) m = HS its sig rb S m := HS_plus_same D hk hx h2 h3
  have mk : ∀ {r2 : Rho} {w2 : World} {v' : Value}, VR r2 v v' → Rel base r2 (HS its sig rb S its.length) w2 → Fr base r (HS its sig rb S its.length) w r2 (HS its sig rb S its.length) w2 → Fsh none r (HS its sig rb S its.length) r2 →
      Inv P N rb ops its sig base r0 h0 w0 (plus S x.i) r2 (a.put o.dst v') w2 := fun {r2 w2 v'} m1 m2 m3 m4 => by
    refine ⟨env_new D hC hk hx hS I.env m3.le hd (by rw [I.size]; exact hdst) (fun q hq => by rw [hv q hq]; exact m1), by rw [hH]; exact m2, by rw [hH]; exact I.fr.trans m3, I.fsh.trans I.fr.next m4 (fun n q => by cases q), fun p y q1 q2 q3 => ?_, by rw [defers_put]; exact I.defers, by rw [size_put]; exact I.size, by rw [hH]; exact I.next⟩
    have hne : y.i ≠ x.i := fun q => by rw [q, plus_self] at q3; cases q3
    rw [plus_ne S hne] at q3
    have hn := I.pend p y q1 q2 q3
    have hlt : rb + y.i < (HS its sig rb S its.length).next := by have := I.next; have := D.lt q1; omega
    exact m4 _ hlt (by simp) hn
  cases c with
  | true =>
    rw [if_pos rfl]; left
    exact op_wp (nckC_sound hnc I.rel he' (nm := none) (fun n q => by cases q) (h1 rfl)) fun r2 w2 v' m1 m2 m3 m4 => hK _ _ _ (mk m1 m2 m3 m4)
  | false =>
    rw [if_neg (by simp)]
    have hu := h0' rfl
    subst hu
    exact hK _ _ _ (mk .undef I.rel (Fr.refl ..) (Fsh.refl none r _))
theorem sameA_eq {a b : Addr} (h : sameA a b = true) : a = b := by
  obtain ⟨x, y, z⟩ := a; obtain ⟨x', y', z'⟩ := b
  simp only [sameA, Bool.and_eq_true, beq_iff_eq] at h
  obtain ⟨⟨rfl, rfl⟩, rfl⟩ := h; rfl
theorem same1_eq {u v : Value} (h : same1 u v = true) : u = v := by
  unfold same1 at h
  split at h
  · rw [beq_iff_eq] at h; rw [h]
  · rw [Bool.and_eq_true, decide_eq_true_eq, beq_iff_eq] at h; rw [h.1, h.2]
  · rename_i a b
    rw [beq_iff_eq] at h
    obtain ⟨⟨x⟩⟩ := a; obtain ⟨⟨y⟩⟩ := b
    simp only at h; rw [h]
  · rfl
  · rw [sameA_eq h]
  · rw [Bool.and_eq_true, beq_iff_eq, beq_iff_eq] at h; rw [h.1, h.2]
  · simp only [Bool.and_eq_true, beq_iff_eq] at h; rw [sameA_eq h.1.1, h.1.2, h.2]
  · rfl
  · rfl
  · cases h
theorem sameL_eq : ∀ {x y : List Value}, sameL x y = true → x = y := by
  intro x
  induction x with
  | nil => intro y h; cases y with | nil => rfl | cons => cases h
  | cons a x ih =>
    intro y h
    cases y with
    | nil => cases h
    | cons b y => simp only [sameL, Bool.and_eq_true] at h; rw [same1_eq h.1, ih h.2]
theorem sameV_eq {u v : Value} (h : sameV u v = true) : u = v := by
  unfold sameV at h
  split at h
  · rename_i a b; rw [show a = b from Array.ext' (sameL_eq h)]
  · exact same1_eq h
theorem exists_last {Q : Nat → Prop} : ∀ L, (∃ p, p < L ∧ Q p) → ∃ p, p < L ∧ Q p ∧ ∀ q, p < q → q < L → ¬ Q q := by
  intro L
  induction L with
  | zero => rintro ⟨p, h, _⟩; omega
  | succ L ih =>
    rintro ⟨p, h, hp⟩
    by_cases hL : Q L
    · exact ⟨L, by omega, hL, fun q h1 h2 => by omega⟩
    · have : p ≠ L := fun q => hL (q ▸ hp)
      obtain ⟨p', g1, g2, g3⟩ := ih ⟨p, by omega, hp⟩
      refine ⟨p', by omega, g2, fun q h1 h2 => ?_⟩
      by_cases hq : q = L
      · rw [hq]; exact hL
      · exact g3 q h1 (by omega)
theorem put_inj {e : Env} {d : Nat} {v v' : Value} (h : put e (some d) v = put e (some d) v') : v = v' := by
  simp only [put, List.cons.injEq, Prod.mk.injEq, true_and, and_true] at h; exact h
theorem sub_tail (D : Dr P N ops call rb its sig) {k : Nat} (W : Wit base N rb ops its sig k) (hk : k ≤ its.length) (hpre : ∀ n, (HS its sig rb S k).get n = (sig k).2.get n)
    (hno : ∀ (p : Nat) (y : It), k ≤ p → p < its.length → its[p]? = some y → y.k = 3 → S y.i = false) : ∀ n B, (sig k).2.get n = some B → (HS its sig rb S its.length).get n = some B := by
  intro n B hB
  obtain ⟨_, ht⟩ := HS_tail D (S := S) its.length hk hno
  rcases ht n with ⟨p, y, g1, g2, g3, g4, g5, g6, g7⟩ | ⟨g1, g2⟩
  · rw [g6, W.none g1 g3 g4] at hB; cases hB
  · rw [g2, hpre]; exact hB
theorem look_step (D : Dr P N ops call rb its sig) (W : ∀ k, k ≤ its.length → Wit base N rb ops its sig k) (hC : Cl ops S) {k : Nat} {x : It} (hk : its[k]? = some x) (h1 : x.k = 1) (hcl : ∀ j, isBef (befs ops) j x.i = true → S j = true ∨ j = x.i) (hS : S x.i = false)
    {o : Oper} (ho : ops[x.i]? = some o) {d : Option Nat} {g : Option (Nat × Bool)} {j : IOp} (hs : compStep P N ops o = some (.op d g j)) (hxs : x.s = .op d g j) (hj : kI j = 1) {v : Value} {h2 : H} (hgd : gd (sig k).1 g = some true) (hop : opE j (sig k).1 (sig k).2 none = some (v, h2)) :
    opE j (sig k).1 (HS its sig rb S its.length) none = some (v, HS its sig rb S its.length) := by
  have hlen : k < its.length := (List.getElem?_eq_some_iff.1 hk).1
  have hx5 : x.k ≠ 5 := by omega
  have hpre : ∀ n, (HS its sig rb S k).get n = (sig k).2.get n := (HS_pre D k (Nat.le_refl _) (fun p y hp hy hk2 => by
    have hy5 : y.k ≠ 5 := by rcases hk2 with q | q <;> omega
    have hpk := D.pk hp hy hk hy5 hx5
    have hb := hpk.bb (by rcases hk2 with q | q <;> simp [q, h1])
    exact (hcl _ hb).resolve_right hpk.ne) (by omega)).2
  by_cases hno : ∀ (p : Nat) (y : It), k ≤ p → p < its.length → its[p]? = some y → y.k = 3 → S y.i = false
  · exact (opE_k1 hj hop).2 _ (sub_tail D (W k (by omega)) (by omega) hpre hno)
  ·
    have hex : ∃ p, p < its.length ∧ (k ≤ p ∧ ∃ y, its[p]? = some y ∧ y.k = 3 ∧ S y.i = true) := by
      by_cases hh : ∃ p, p < its.length ∧ (k ≤ p ∧ ∃ y, its[p]? = some y ∧ y.k = 3 ∧ S y.i = true)
      · exact hh
      · exact absurd (fun p y q1 q2 q3 q4 => by
          cases hSy : S y.i with
          | false => rfl
          | true => exact absurd ⟨p, q2, q1, y, q3, q4, hSy⟩ hh) hno
    obtain ⟨k2, l1, ⟨l2, y, l3, l4, l5⟩, l6⟩ := exists_last its.length hex
    have hne : k2 ≠ k := fun q => by rw [q, hk] at l3; cases l3; omega
    have hnb : isBef (befs ops) x.i y.i = false := by
      cases hb : isBef (befs ops) x.i y.i with
      | false => rfl
      | true => have := bef_closed hC _ _ hb l5; rw [hS] at this; cases this
    obtain ⟨k3, z, c1, c2, c3, c4, c5⟩ := D.ck k k2 x y (by omega) hk l3 h1 l4 hnb
    have hk3 : k3 < its.length := (List.getElem?_eq_some_iff.1 c2).1
    have hsig : ∀ m, k2 + 1 ≤ m → m ≤ k3 → sig m = sig (k2 + 1) := by
      intro m
      induction m with
      | zero => intro h; omega
      | succ m ih =>
        intro q1 q2
        by_cases hm : m = k2
        · rw [hm]
        · have hu : its[m]? = some its[m] := List.getElem?_eq_getElem (by omega)
          rw [D.chk hu (c5 m _ (by omega) (by omega) hu)]
          exact ih (by omega) (by omega)
    have hslot : ∀ m, k + 1 ≤ m → m ≤ its.length → (∀ t ∈ tS x.s, look (sig m).1 t = look (sig k).1 t) ∧ (∀ q, d = some q → look (sig m).1 q = some (valOf sig k)) := by
      have hit := D.it k x hk
      simp only [itemOK, Bool.and_eq_true, h1] at hit
      have hd0 : ∀ q, d = some q → q ∉ tS x.s := fun q hq => by
        subst hq
        have := hit.1.2
        rw [hxs] at this ⊢
        simp only [dS] at this
        simpa using this
      intro m
      induction m with
      | zero => intro h; omega
      | succ m ih =>
        intro q1 q2
        by_cases hm : m = k
        · subst hm
          obtain ⟨e1, _⟩ := D.env hk hx5
          have hdd : dS x.s = d := by rw [hxs]; rfl
          rw [e1, hdd]
          refine ⟨fun t ht => look_put_ne (fun q => hd0 t q ht), fun q hq => by rw [hq, look_put_same]⟩
        · obtain ⟨i1, i2⟩ := ih (by omega) (by omega)
          have hu : its[m]? = some its[m] := List.getElem?_eq_getElem (by omega)
          generalize its[m] = u at hu
          by_cases h5 : u.k = 5
          · rw [D.chk hu h5]; exact ⟨i1, i2⟩
          · obtain ⟨e1, _⟩ := D.env hu h5
            have hp := (D.pk (by omega : k < m) hk hu hx5 h5).r1 h1
            rw [e1]
            refine ⟨fun t ht => by rw [look_put_ne (fun q => (hp t q).1 ht)]; exact i1 t ht, fun q hq => ?_⟩
            rw [look_put_ne (fun q' => (hp q q').2 (by rw [hxs]; exact hq))]; exact i2 q hq
    obtain ⟨s1, s2⟩ := hslot k3 (by omega) (by omega)
    have hz := D.st k3 z c2
    obtain ⟨oz, ho2, hcase⟩ := D.sp k3 z c2
    rw [c4, ho] at ho2; cases ho2
    rcases hcase with ⟨q, _⟩ | ⟨q, _⟩ | ⟨q, _⟩ | ⟨q, _⟩ | ⟨_, d', g', j', hs', hzs⟩
    · omega
    · omega
    · omega
    · omega
    · rw [hs] at hs'
      cases hs'
      rw [hzs] at hz
      simp only [stepE] at hz
      have hsame : Same (sig k3).1 (sig k).1 (tS x.s) := s1
      rw [hxs] at hsame
      simp only [tS] at hsame
      rw [gd_same' hsame.l, hgd] at hz
      simp only at hz
      rw [opE_same hsame.r] at hz
      split at hz
      · rename_i v2 h3 hop2
        rw [s2 d' rfl] at hz
        simp only at hz
        split at hz
        · rename_i hsv
          have hv2 := sameV_eq hsv
          have hval : valOf sig k = v := by
            have E := D.st k x hk
            rw [hxs] at E
            simp only [stepE, hgd, hop] at E
            have e1 := (D.env hk hx5).1
            rw [← Option.some.inj E, hxs] at e1
            exact (put_inj e1).symm
          rw [hsig k3 (by omega) (Nat.le_refl _)] at hop2
          have hmono := (opE_k1 hj hop2).2
          have hH : ∀ n, (HS its sig rb S (k2 + 1)).get n = (sig (k2 + 1)).2.get n := fun n => by
            simp only [HS, l3]; rw [if_pos ⟨l4, l5⟩]
          have := hmono _ (sub_tail D (W (k2 + 1) (by omega)) (by omega) hH (fun p u q1 q2 q3 q4 => by
            cases hSu : S u.i with
            | false => rfl
            | true => exact absurd ⟨by omega, u, q3, q4, hSu⟩ (l6 p (by omega) q2)))
          rw [this, ← hv2, hval]
        · cases hz
      · cases hz
theorem own_look (D : Dr P N ops call rb its sig) (hC : Cl ops S) {k : Nat} {x : It} (hk : its[k]? = some x) (h4 : x.k = 4) (hcl : ∀ j, isBef (befs ops) j x.i = true → S j = true ∨ j = x.i) (hS : S x.i = false) :
    (HS its sig rb S its.length).get (rb + x.q) = (sig k).2.get (rb + x.q) := by
  have hlen : k < its.length := (List.getElem?_eq_some_iff.1 hk).1
  have hx5 : x.k ≠ 5 := by omega
  have hit := D.it k x hk
  simp only [itemOK, Bool.and_eq_true, h4] at hit
  have hit2 := hit.2
  simp only [Bool.or_eq_true, Bool.and_eq_true, List.any_eq_true] at hit2
  obtain ⟨hb, y, hy, hyq⟩ := hit2.resolve_left (by simp)
  simp only [beq_iff_eq] at hyq
  obtain ⟨kq, hkq, hyk⟩ := List.getElem_of_mem hy
  have hyi : its[kq]? = some y := by rw [List.getElem?_eq_getElem hkq, hyk]
  obtain ⟨hy2, hyi2⟩ := hyq
  have hy5 : y.k ≠ 5 := by omega
  have hlt : kq < k := by
    rcases Nat.lt_trichotomy kq k with q | q | q
    · exact q
    · subst q; rw [hk] at hyi; cases hyi; omega
    · have := (D.pk q hk hyi hx5 hy5).nb
      rw [hyi2, hb] at this; cases this
  have hSq : S y.i = true := by
    rcases hcl x.q hb with q | q
    · rw [hyi2]; exact q
    · exact absurd (hyi2.trans q) (D.pk hlt hyi hk hy5 hx5).ne
  have hnoB : ∀ (p : Nat) (z : It), kq + 1 ≤ p → p < k → its[p]? = some z → z.k ≠ 3 := fun p z q1 q2 q3 q4 => by
    have hz5 : z.k ≠ 5 := by omega
    have g1 := (D.pk (by omega : kq < p) hyi q3 hy5 hz5).bb (.inr (.inl ⟨hy2, q4⟩))
    have hp := D.pk q2 q3 hk hz5 hx5
    have := hp.r2 h4 q4 (by rw [← hyi2]; exact g1)
    rw [hp.nb] at this; cases this
  have hcan : ∀ m, kq + 1 ≤ m → m ≤ k → (sig m).2.get (rb + x.q) = (sig (kq + 1)).2.get (rb + x.q) := by
    intro m
    induction m with
    | zero => intro h; omega
    | succ m ih =>
      intro q1 q2
      by_cases hm : m = kq
      · rw [hm]
      · have hu : its[m]? = some its[m] := List.getElem?_eq_getElem (by omega)
        generalize its[m] = u at hu
        rw [← ih (by omega) (by omega)]
        by_cases u2 : u.k = 2
        · refine (D.heapA hu u2).2 _ (fun q => ?_)
          have hui : y.i = u.i := by rw [hyi2]; omega
          have := D.uniq hyi hu hy5 (by omega) hui
          omega
        · rw [D.heap hu u2 (hnoB m u (by omega) (by omega) hu)]
  rw [hcan k (by omega) (Nat.le_refl _)]
  have hset : (HS its sig rb S (kq + 1)).get (rb + x.q) = (sig (kq + 1)).2.get (rb + x.q) := by
    simp only [HS, hyi]
    rw [if_neg (fun q => by omega), if_pos ⟨hy2, hSq⟩, H.get_set, hyi2, if_pos rfl]
  rw [← hset]
  obtain ⟨_, ht⟩ := HS_tail D (S := S) (k := kq + 1) its.length (by omega) (fun p z q1 q2 q3 q4 => by
    cases hSz : S z.i with
    | false => rfl
    | true =>
      have hz5 : z.k ≠ 5 := by omega
      have g1 := (D.pk (by omega : kq < p) hyi q3 hy5 hz5).bb (.inr (.inl ⟨hy2, q4⟩))
      rw [hyi2] at g1
      rcases Nat.lt_trichotomy p k with q | q | q
      · exact absurd q4 (hnoB p z q1 q q3)
      · subst q; rw [hk] at q3; cases q3; omega
      · have := (D.pk q hk q3 hx5 hz5).r3 h4 q4 g1
        have := bef_closed hC _ _ this hSz
        rw [hS] at this; cases this)
  rcases ht (rb + x.q) with ⟨p, z, g1, g2, g3, g4, g5, g6, g7⟩ | ⟨_, g2⟩
  · have hui : y.i = z.i := by rw [hyi2]; omega
    have := D.uniq hyi g3 hy5 (by omega) hui
    omega
  · exact g2
end Go.Proofs.Ytkfjlbdedjoojaa.Am
namespace Go.Proofs.Ytkfjlbdedjoojaa.Am
open Go
set_option linter.unusedVariables false
set_option linter.unusedSimpArgs false
variable {P : Program} {N : Nat} {ops : Array Oper} {call : CallE} {rb : Nat} {its : List It} {sig : Nat → Env × H} {S : Nat → Bool} {base : Nat} {r0 : Rho} {h0 : H} {w0 : World}
theorem look_norm_some {e : Env} : ∀ {l : List Nat} {t : Nat} {v : Value}, look (norm l e) t = some v → t ∈ l ∧ look e t = some v := by
  intro l
  induction l with
  | nil => intro t v h; cases h
  | cons u l ih =>
    intro t v h
    simp only [norm] at h
    split at h
    · rename_i x hx
      simp only [look] at h
      split at h
      · rename_i e1; subst e1; cases h; exact ⟨List.mem_cons_self .., hx⟩
      · obtain ⟨q1, q2⟩ := ih h; exact ⟨List.mem_cons_of_mem _ q1, q2⟩
    · obtain ⟨q1, q2⟩ := ih h; exact ⟨List.mem_cons_of_mem _ q1, q2⟩
theorem Rel.merge {r r2 : Rho} {HH hs h2 H' : H} {w w2 : World} (R : Rel base r HH w) (R2 : Rel base r2 h2 w2) (F : Fr base r hs w r2 h2 w2) (hsub : ∀ n B, hs.get n = some B → HH.get n = some B)
    (hg : ∀ n, H'.get n = h2.get n ∨ (H'.get n = HH.get n ∧ hs.get n = none ∧ h2.get n = none)) (hn : H'.next = h2.next) (hn2 : HH.next = hs.next) : Rel base r2 H' w2 ∧ Fr base r HH w r2 H' w2 := by
  have pick : ∀ n B, H'.get n = some B → h2.get n = some B ∨ (HH.get n = some B ∧ hs.get n = none) := fun n B e => by
    rcases hg n with g | ⟨g, g2, _⟩
    · exact .inl (by rw [← g]; exact e)
    · exact .inr ⟨by rw [← g]; exact e, g2⟩
  have old : ∀ n B L, HH.get n = some B → r2 n = some L → r n = some L := fun n B L e1 e2 => by
    obtain ⟨M, _, _, _, g1, _⟩ := R.cells n B e1
    have := F.le n M g1
    rw [e2] at this; cases this; exact g1
  have hlt : ∀ n B L, HH.get n = some B → r n = some L → L.b < w.heap.size := fun n B L e1 e2 => by
    obtain ⟨M, _, _, _, g1, g2, _⟩ := R.cells n B e1
    rw [e2] at g1; cases g1
    exact (Array.getElem?_eq_some_iff.1 g2).1
  have cross : ∀ n m Bn Bm L M, h2.get n = some Bn → Bn.ro = false → HH.get m = some Bm → hs.get m = none → r2 n = some L → r2 m = some M → L.b ≠ M.b := fun n m Bn Bm L M e1 e2 e3 e4 e5 e6 q => by
    have hM := old m Bm M e3 e6
    obtain ⟨m', B', M', k1, k2, k3, k4⟩ := F.cov n Bn L e1 e2 e5 (by rw [q]; exact hlt m Bm M e3 hM)
    have hne : m' ≠ m := fun q => by rw [q, e4] at k1; cases k1
    exact R.inj m' m B' Bm M' M (hsub _ _ k1) e3 hne k2 k3 hM (k4.trans q)
  refine ⟨⟨fun n B e => ?_, fun n m Bn Bm L M e1 e2 hne hro e3 e4 => ?_, fun n h => R2.new n (by omega), R2.size, fun n B L e hro e2 => ?_, fun n B L c e fz q1 q2 q3 q4 => ?_⟩, ⟨F.le, by rw [hn, hn2]; exact F.next, F.size, F.os, F.tape, F.output, fun b hb hq => ?_, fun n B L e hro e2 hl => ?_⟩⟩
  · rcases pick n B e with g | ⟨g, g2⟩
    · exact R2.cells n B g
    · obtain ⟨L, c, el, fz, k1, k2, k3, k4, k5, k6, k7⟩ := R.cells n B g
      refine ⟨L, c, el, fz, F.le _ _ k1, ?_, k3, k4, k5, k6, fun i v hv => ?_⟩
      · rw [F.keep L.b (hlt n B L g k1) (fun m B' M j1 j2 j3 => R.inj m n B' B M L (hsub _ _ j1) g (fun q => by rw [q, g2] at j1; cases j1) j2 j3 k1)]; exact k2
      · obtain ⟨q1, v', q2, q3⟩ := k7 i v hv; exact ⟨q1, v', q2, q3.mono F.le⟩
  · rcases pick n Bn e1 with g | ⟨g, g2⟩
    · rcases pick m Bm e2 with g' | ⟨g', g2'⟩
      · exact R2.inj n m Bn Bm L M g g' hne hro e3 e4
      · exact cross n m Bn Bm L M g hro g' g2' e3 e4
    · rcases pick m Bm e2 with g' | ⟨g', g2'⟩
      · cases hb : Bm.ro with
        | false => exact (cross m n Bm Bn M L g' hb g g2 e4 e3).symm
        | true =>
          have h1 := R2.ro m Bm M g' hb e4
          obtain ⟨L', _, _, _, k1, _, _, _, _, k6, _⟩ := R.cells n Bn g
          rw [old n Bn L g e3] at k1; cases k1
          have := (k6 hro).1; omega
      · exact R.inj n m Bn Bm L M g g' hne hro (old n Bn L g e3) (old m Bm M g' e4)
  · rcases pick n B e with g | ⟨g, g2⟩
    · exact R2.ro n B L g hro e2
    · exact R.ro n B L g hro (old n B L g e2)
  · rcases pick n B q1 with g | ⟨g, g2⟩
    · exact R2.hid n B L c e fz g q2 q3 q4
    · have k1 := old n B L g q3
      rw [F.keep L.b (hlt n B L g k1) (fun m B' M j1 j2 j3 => R.inj m n B' B M L (hsub _ _ j1) g (fun q => by rw [q, g2] at j1; cases j1) j2 j3 k1)] at q4
      exact (R.hid n B L c e fz g q2 k1 q4).mono F.le
  · exact F.keep b hb (fun n B L j1 j2 j3 => hq n B L (hsub _ _ j1) j2 j3)
  · rcases pick n B e with g | ⟨g, g2⟩
    · obtain ⟨m, Bm, M, k1, k2, k3, k4⟩ := F.cov n B L g hro e2 hl
      exact ⟨m, Bm, M, hsub _ _ k1, k2, k3, k4⟩
    · exact ⟨n, B, L, g, hro, old n B L g e2, rfl⟩
theorem act_step (D : Dr P N ops call rb its sig) (hcall : SoundC P call) (W : ∀ k, k ≤ its.length → Wit base N rb ops its sig k) (hC : Cl ops S) {k : Nat} {x : It} (hk : its[k]? = some x) (h3 : x.k = 3) (hcl : ∀ j, isBef (befs ops) j x.i = true → S j = true ∨ j = x.i) (hS : S x.i = false) {r : Rho} {a : Act} {w : World}
    (I : Inv P N rb ops its sig base r0 h0 w0 S r a w) {o : Oper} (hs : compStep P N ops o = some x.s) (hn : ∀ d g i, x.s ≠ .chk d g i) {e' : Env} (he' : EnvR r e' a.tmps) (hsm : Same (sig k).1 e' (tS x.s))
    {K : Act → World → Prop} {Q : Exit → Act → World → Prop} (hK : ∀ r2 a2 w2, Inv P N rb ops its sig base r0 h0 w0 (plus S x.i) r2 a2 w2 → K a2 w2) :
    if Region.wanted o (yielded ops a.tmps) then o.wp P a w K Q ∨ (o.asks P a w ∧ LetsOut Q) else K (a.put o.dst undef) w := by
  have hlen : k < its.length := (List.getElem?_eq_some_iff.1 hk).1
  have hx5 : x.k ≠ 5 := by omega
  have hdst := compStep_dst hs
  have hd := (compStep_form hs).1
  obtain ⟨p1, p2⟩ := HS_pre (S := S) D k (Nat.le_refl _) (fun p y hp hy hk2 => by
    have hy5 : y.k ≠ 5 := by rcases hk2 with q | q <;> omega
    have hpk := D.pk hp hy hk hy5 hx5
    have hb := hpk.bb (by rcases hk2 with q | q <;> simp [q, h3])
    exact (hcl _ hb).resolve_right hpk.ne) (by omega)
  have hno : ∀ (p : Nat) (y : It), k ≤ p → p < its.length → its[p]? = some y → y.k = 3 → S y.i = false := fun p y q1 q2 q3 q4 => by
    by_cases hpk : p = k
    · subst hpk; rw [hk] at q3; cases q3; exact hS
    · have hb := (D.pk (by omega : k < p) hk q3 hx5 (by omega)).bb (.inl ⟨h3, q4⟩)
      cases hSy : S y.i with
      | false => rfl
      | true => have := bef_closed hC _ _ hb hSy; rw [hS] at this; cases this
  have hsub := sub_tail D (W k (by omega)) (by omega) p2 hno
  obtain ⟨t1, t2⟩ := HS_tail D (S := S) its.length (by omega : k ≤ its.length) hno
  have hnx : (HS its sig rb S its.length).next = (sig k).2.next := by rw [t1, p1]
  have hS1 : HS its sig rb (plus S x.i) (k + 1) = (sig (k + 1)).2 := by simp only [HS, hk]; rw [if_pos ⟨h3, plus_self S x.i⟩]
  have hpl : ∀ {p : Nat} {y : It}, k < p → its[p]? = some y → y.k ≠ 5 → plus S x.i y.i = S y.i := fun {p y} q1 q2 q3 => plus_ne S (D.pk q1 hk q2 hx5 q3).ne.symm
  obtain ⟨u1, u2⟩ := HS_tail D (S := plus S x.i) its.length (by omega : k + 1 ≤ its.length) (fun p y q1 q2 q3 q4 => by rw [hpl (by omega) q3 (by omega)]; exact hno p y (by omega) q2 q3 q4)
  rw [hS1] at u1
  have R' := I.rel.sub hsub (by omega)
  obtain ⟨v, g1, g2⟩ := stepE_same hsm hn (D.st k x hk)
  have hval : ∀ q, o.dst = some q → valOf sig k = v := fun q hq => by
    unfold valOf; rw [g1, hd, hq]; rfl
  refine step_core hcall hs g2 he' R' I.size fun v1 v' r2 w2 m1 m2 m3 m4 m5 => ?_
  have hv1 : ∀ q, o.dst = some q → v1 = v := fun q hq => by
    rw [hd, hq] at m1; exact (put_inj m1).symm
  obtain ⟨n1, n2⟩ := I.rel.merge (H' := HS its sig rb (plus S x.i) its.length) m3 m4 hsub (fun n => by
    rcases u2 n with ⟨p, y, q1, q2, q3, q4, q5, q6, q7⟩ | ⟨_, q⟩
    · refine .inr ⟨?_, by rw [q6]; exact (W k (by omega)).none (by omega) q3 q4, by rw [q6]; exact (W (k + 1) (by omega)).none q1 q3 q4⟩
      rw [q7]
      rw [hpl (by omega) q3 (by omega)] at q5
      rcases t2 n with ⟨p', y', j1, j2, j3, j4, j5, j6, j7⟩ | ⟨j1, _⟩
      · have he0 : y.i = y'.i := by omega
        have := D.uniq q3 j3 (by omega) (by omega) he0
        rw [j7, this]
      · exact absurd q6 (j1 p y (by omega) q2 q3 q4 q5)
    · exact .inl (by rw [q, hS1])) u1 hnx
  refine hK r2 _ w2 ⟨env_new D hC hk hx5 hS I.env m4.le hd (by rw [I.size]; exact hdst) (fun q hq => by rw [hval q hq, ← hv1 q hq]; exact m2), n1, I.fr.trans n2, ?_, fun p y q1 q2 q3 => ?_, by rw [defers_put]; exact I.defers, by rw [size_put]; exact I.size, ?_⟩
  · exact I.fsh.trans (by rw [← hnx]; exact I.fr.next) m5 (fun n q => by cases q)
  · have hne : y.i ≠ x.i := fun q => by rw [q, plus_self] at q3; cases q3
    rw [plus_ne S hne] at q3
    exact m5 _ (by have := I.next; have := D.lt q1; omega) (by simp) (I.pend p y q1 q2 q3)
  · have := I.next; have := n2.next; omega
theorem HS_plus_new (D : Dr P N ops call rb its sig) (hC : Cl ops S) {k : Nat} {x : It} (hk : its[k]? = some x) (h2 : x.k = 2) (hS : S x.i = false) : ∀ m, k + 1 ≤ m → m ≤ its.length →
    (HS its sig rb (plus S x.i) m).next = (HS its sig rb S m).next ∧ ∀ n, (HS its sig rb (plus S x.i) m).get n = if n = rb + x.i then (sig (k + 1)).2.get (rb + x.i) else (HS its sig rb S m).get n := by
  have hx5 : x.k ≠ 5 := by omega
  intro m
  induction m with
  | zero => intro h; omega
  | succ m ih =>
    intro q1 q2
    by_cases hm : m = k
    · subst hm
      have e1 : HS its sig rb (plus S x.i) (m + 1) = (HS its sig rb S m).set (rb + x.i) ((sig (m + 1)).2.get (rb + x.i)) := by
        simp only [HS, hk]; rw [if_neg (fun q => by omega), if_pos ⟨h2, plus_self S x.i⟩, HS_plus_pre D hk hx5 m (Nat.le_refl _)]
      have e2 : HS its sig rb S (m + 1) = HS its sig rb S m := by
        simp only [HS, hk]; rw [if_neg (fun q => by omega), if_neg (fun q => by rw [hS] at q; exact absurd q.2 (by simp))]
      rw [e1, e2]
      exact ⟨rfl, fun n => H.get_set ..⟩
    · obtain ⟨i1, i2⟩ := ih (by omega) (by omega)
      have hu : its[m]? = some its[m] := List.getElem?_eq_getElem (by omega)
      generalize its[m] = y at hu
      simp only [HS, hu]
      by_cases h5 : y.k = 5
      · rw [if_neg (fun q => by omega), if_neg (fun q => by omega), if_neg (fun q => by omega), if_neg (fun q => by omega)]; exact ⟨i1, i2⟩
      · have hpk := D.pk (by omega : k < m) hk hu hx5 h5
        rw [plus_ne S hpk.ne.symm]
        by_cases hy3 : y.k = 3 ∧ S y.i = true
        · have hb := hpk.bb (.inr (.inl ⟨h2, hy3.1⟩))
          have := bef_closed hC _ _ hb hy3.2; rw [hS] at this; cases this
        · rw [if_neg hy3, if_neg hy3]
          by_cases hy2 : y.k = 2 ∧ S y.i = true
          · rw [if_pos hy2, if_pos hy2]
            refine ⟨i1, fun n => ?_⟩
            rw [H.get_set, H.get_set, i2]
            have := hpk.ne
            by_cases e1 : n = rb + y.i
            · rw [if_pos e1, if_neg (by omega), if_pos e1]
            · rw [if_neg e1, if_neg e1]
          · rw [if_neg hy2, if_neg hy2]; exact ⟨i1, i2⟩
theorem new_step (D : Dr P N ops call rb its sig) (hrb : h0.next ≤ rb) (W : ∀ k, k ≤ its.length → Wit base N rb ops its sig k) (hC : Cl ops S) {k : Nat} {x : It} (hk : its[k]? = some x) (h2 : x.k = 2) (hS : S x.i = false) {r : Rho} {a : Act} {w : World}
    (I : Inv P N rb ops its sig base r0 h0 w0 S r a w) {o : Oper} {d : Option Nat} {g : Option (Nat × Bool)} {j : IOp} (hs : compStep P N ops o = some (.op d g j)) (hxs : x.s = .opA d g j x.i) (hj : kI j = 2) {e' : Env} (he' : EnvR r e' a.tmps) (hsm : Same (sig k).1 e' (tS x.s))
    {K : Act → World → Prop} {Q : Exit → Act → World → Prop} (hK : ∀ r2 a2 w2, Inv P N rb ops its sig base r0 h0 w0 (plus S x.i) r2 a2 w2 → K a2 w2) :
    if Region.wanted o (yielded ops a.tmps) then o.wp P a w K Q ∨ (o.asks P a w ∧ LetsOut Q) else K (a.put o.dst undef) w := by
  have hlen : k < its.length := (List.getElem?_eq_some_iff.1 hk).1
  have hx5 : x.k ≠ 5 := by omega
  obtain ⟨hdo, hg, hnc⟩ := compStep_op hs
  have hdst := compStep_dst hs
  have hd : dS x.s = o.dst := by rw [hxs]; exact hdo
  obtain ⟨a1, a2⟩ := HS_plus_new D hC hk h2 hS its.length (by omega) (Nat.le_refl _)
  have hpd := I.pend k x hk h2 hS
  have hlt : rb + x.i < (HS its sig rb S its.length).next := by have := I.next; have := D.lt hk; omega
  have E := D.st k x hk
  rw [hxs] at E hsm
  simp only [tS] at hsm
  simp only [stepE] at E
  have mk : ∀ {r2 : Rho} {w2 : World} {v v' : Value} {H2 : H}, (∀ q, o.dst = some q → valOf sig k = v) → (∀ n, (HS its sig rb (plus S x.i) its.length).get n = H2.get n) → H2.next = (HS its sig rb S its.length).next → VR r2 v v' → Rel base r2 H2 w2 → Fr base r (HS its sig rb S its.length) w r2 H2 w2 → Fsh (some (rb + x.i)) r (HS its sig rb S its.length) r2 → r0.le r →
      Inv P N rb ops its sig base r0 h0 w0 (plus S x.i) r2 (a.put o.dst v') w2 := fun {r2 w2 v v' H2} q0 q1 q2 m1 m2 m3 m4 _ => by
    refine ⟨env_new D hC hk hx5 hS I.env m3.le hd (by rw [I.size]; exact hdst) (fun q hq => by rw [q0 q hq]; exact m1), m2.congr q1 (by rw [a1, q2]), I.fr.trans (m3.congr q1 (by rw [a1, q2])), ?_, fun p y j1 j2 j3 => ?_, by rw [defers_put]; exact I.defers, by rw [size_put]; exact I.size, by rw [a1]; exact I.next⟩
    · intro n n1 n2 n3
      have := I.fsh n n1 n2 n3
      have hfr := I.fr.next
      by_cases hn : n = rb + x.i
      · omega
      · exact m4 n (by omega) (fun q => hn (Option.some.inj q).symm) this
    · have hne : y.i ≠ x.i := fun q => by rw [q, plus_self] at j3; cases j3
      rw [plus_ne S hne] at j3
      exact m4 _ (by have := I.next; have := D.lt j1; omega) (fun q => hne (by have := Option.some.inj q; omega)) (I.pend p y j1 j2 j3)
  cases hgd : gd (sig k).1 g with
  | none => rw [hgd] at E; cases E
  | some c =>
    rw [hgd] at E
    rw [gd_same' hsm.l] at hgd
    rw [gd_sound he' hg hgd]
    cases c with
    | true =>
      simp only at E
      split at E
      · rename_i v h3 hop
        have e1 := Option.some.inj E
        obtain ⟨B, hB, hB2⟩ := opE_k2 hj hop
        have hop2 := hB2 (HS its sig rb S its.length)
        rw [opE_same hsm.r] at hop2
        rw [if_pos rfl]; left
        refine op_wp (nckC_sound hnc I.rel he' (nm := some (rb + x.i)) (fun n q => by cases q; exact ⟨hlt, hpd⟩) hop2) fun r2 w2 v' m1 m2 m3 m4 => hK _ _ _ (mk (v := v) (H2 := (HS its sig rb S its.length).set (rb + x.i) (some B)) (fun q hq => ?_) (fun n => ?_) rfl m1 m2 m3 m4 I.fr.le)
        · unfold valOf; rw [← e1, hdo, hq]; rfl
        · rw [a2 n, H.get_set, ← e1, hB, H.get_set_same]
      · cases E
    | false =>
      simp only at E
      have e1 := Option.some.inj E
      rw [if_neg (by simp)]
      refine hK _ _ _ (mk (v := undef) (H2 := HS its sig rb S its.length) (fun q hq => ?_) (fun n => ?_) rfl .undef I.rel (Fr.refl ..) (Fsh.refl _ r _) I.fr.le)
      · unfold valOf; rw [← e1, hdo, hq]; rfl
      · rw [a2 n]
        split
        · rename_i hn
          rw [← e1, hn, (W k (by omega)).none (Nat.le_refl _) hk h2]
          cases hq : (HS its sig rb S its.length).get (rb + x.i) with
          | none => rfl
          | some B => obtain ⟨L, _, _, _, g1, _⟩ := I.rel.cells _ B hq; rw [hpd] at g1; cases g1
        · rfl
theorem one_step (D : Dr P N ops call rb its sig) (hcall : SoundC P call) (hrb : h0.next ≤ rb) (W : ∀ k, k ≤ its.length → Wit base N rb ops its sig k) (hC : Cl ops S) {i : Nat} {o : Oper} (ho : ops[i]? = some o) (hcl : ∀ j, isBef (befs ops) j i = true → S j = true ∨ j = i) (hS : S i = false) {r : Rho} {a : Act} {w : World}
    (I : Inv P N rb ops its sig base r0 h0 w0 S r a w) {K : Act → World → Prop} {Q : Exit → Act → World → Prop} (hK : ∀ r2 a2 w2, Inv P N rb ops its sig base r0 h0 w0 (plus S i) r2 a2 w2 → K a2 w2) :
    if Region.wanted o (yielded ops a.tmps) then o.wp P a w K Q ∨ (o.asks P a w ∧ LetsOut Q) else K (a.put o.dst undef) w := by
  obtain ⟨k, x, hk, hx5, rfl⟩ := D.all i (Array.getElem?_eq_some_iff.1 ho).1
  obtain ⟨e', hsm, he'⟩ : ∃ e', Same (sig k).1 e' (tS x.s) ∧ EnvR r e' a.tmps := ⟨norm (tS x.s) (sig k).1, fun t ht => (look_norm ht).symm, fun t u hu => by
    obtain ⟨q1, q2⟩ := look_norm_some hu
    rw [← ES_look D hC hk hx5 hcl hS q1] at q2
    exact I.env t u q2⟩
  obtain ⟨o2, ho2, hcase⟩ := D.sp k x hk
  rw [ho] at ho2; cases ho2
  have E := D.st k x hk
  rcases hcase with ⟨h3, hs, hn⟩ | ⟨h01, d, g, j, hs, hxs, hj⟩ | ⟨h2, d, g, j, hs, hxs, hj⟩ | ⟨h4, d, g, j, hs, hxs, hj⟩ | ⟨q, _⟩
  · exact act_step D hcall W hC hk h3 hcl hS I hs hn he' hsm hK
  · have hd := (compStep_form hs).1
    rw [hxs] at hs hsm E
    simp only [tS] at hsm
    simp only [stepE] at E
    have hdo : d = o.dst := (compStep_op hs).1
    cases hgd : gd (sig k).1 g with
    | none => rw [hgd] at E; cases E
    | some c =>
      rw [hgd] at E
      have hgd' := hgd
      rw [gd_same' hsm.l] at hgd
      cases c with
      | true =>
        simp only at E
        split at E
        · rename_i v h3 hop
          have e1 := Option.some.inj E
          refine quiet_step D hC hk hx5 (by omega) (by omega) hS I hs hd he' hgd (v := v) (fun q hq => by unfold valOf; rw [← e1, hdo, hq]; rfl) (fun _ => ?_) (fun q => by cases q) hK
          rw [← opE_same hsm.r]
          rcases h01 with h0 | h1
          · exact (opE_k0 (hj.trans h0) hop).2 _ _
          · exact look_step D W hC hk h1 hcl hS ho hs hxs (hj.trans h1) hgd' hop
        · cases E
      | false =>
        simp only at E
        have e1 := Option.some.inj E
        exact quiet_step D hC hk hx5 (by omega) (by omega) hS I hs hd he' hgd (v := undef) (fun q hq => by unfold valOf; rw [← e1, hdo, hq]; rfl) (fun q => by cases q) (fun _ => rfl) hK
  · exact new_step D hrb W hC hk h2 hS I hs hxs hj he' hsm hK
  · have hd := (compStep_form hs).1
    have hdo : d = o.dst := (compStep_op hs).1
    have hdx : dS x.s = o.dst := by rw [hxs]; exact hdo
    have hsm2 := hsm
    rw [hxs] at hsm2 E
    simp only [tS] at hsm2
    simp only [stepE] at E
    cases hgd : gd (sig k).1 g with
    | none => rw [hgd] at E; cases E
    | some c =>
      rw [hgd] at E
      rw [gd_same' hsm2.l] at hgd
      cases c with
      | true =>
        simp only at E
        split at E
        · rename_i n hn
          split at E
          · rename_i hnq
            split at E
            · rename_i v h3 hop
              have e1 := Option.some.inj E
              refine quiet_step D hC hk hx5 (by omega) (by omega) hS I hs hdx he' hgd (v := v) (fun q hq => by unfold valOf; rw [← e1, hdo, hq]; rfl) (fun _ => ?_) (fun q => by cases q) hK
              have := opE_addr hn hop (HS its sig rb S its.length) (by rw [hnq]; exact own_look D hC hk h4 hcl hS)
              rw [opE_same hsm2.r] at this; exact this
            · cases E
          · cases E
        · cases E
      | false =>
        simp only at E
        have e1 := Option.some.inj E
        exact quiet_step D hC hk hx5 (by omega) (by omega) hS I hs hdx he' hgd (v := undef) (fun q hq => by unfold valOf; rw [← e1, hdo, hq]; rfl) (fun q => by cases q) (fun _ => rfl) hK
  · exact absurd q hx5
def cnt (S : Nat → Bool) : Nat → Nat
  | 0 => 0
  | n + 1 => cnt S n + if S n = true then 0 else 1
theorem cnt_plus {i : Nat} (hS : S i = false) : ∀ n, cnt (plus S i) n + (if i < n then 1 else 0) = cnt S n := by
  intro n
  induction n with
  | zero => simp [cnt]
  | succ n ih =>
    simp only [cnt]
    by_cases h : n = i
    · subst h
      rw [plus_self, if_pos rfl, if_pos (by omega), hS, if_neg (by simp)]
      rw [if_neg (by omega)] at ih; omega
    · rw [plus_ne S h]
      by_cases h2 : i < n
      · rw [if_pos h2] at ih; rw [if_pos (by omega : i < n + 1)]; omega
      · rw [if_neg h2] at ih; rw [if_neg (by omega : ¬ i < n + 1)]; omega
theorem cnt_zero : ∀ {n : Nat}, cnt S n = 0 → ∀ i, i < n → S i = true := by
  intro n
  induction n with
  | zero => intro _ i h; omega
  | succ n ih =>
    intro h i hi
    simp only [cnt] at h
    by_cases hn : i = n
    · subst hn
      cases hS : S i with
      | true => rfl
      | false => rw [hS] at h; simp at h
    · exact ih (by omega) i (by omega)
def lst (listed : Array Bool) : Nat → Bool := fun i => listed.getD i false
theorem lst_set {listed : Array Bool} {i : Nat} (hi : i < listed.size) : lst (listed.setIfInBounds i true) = plus (lst listed) i := by
  funext j
  simp only [lst, plus]
  rw [Array.getD_eq_getD_getElem?, Array.getD_eq_getD_getElem?, Array.getElem?_setIfInBounds]
  by_cases h : i = j
  · subst h; simp [hi]
  · rw [if_neg h]; simp [Ne.symm h]
theorem mem_ready {listed : Array Bool} {i : Nat} (hs : listed.size = ops.size) : i ∈ Region.ready .any ops listed ↔ i < ops.size ∧ lst listed i = false ∧ ∃ o, ops[i]? = some o ∧ ∀ e ∈ o.after, Region.binds .any e = true → lst listed e.on = true := by
  unfold Region.ready lst
  rw [List.mem_filter, List.mem_range, Bool.and_eq_true]
  constructor
  · rintro ⟨h1, h2, h3⟩
    have ho : ops[i]? = some ops[i] := Array.getElem?_eq_getElem h1
    refine ⟨h1, ?_, ops[i], ho, fun e he hb => ?_⟩
    · rw [Array.getD_eq_getD_getElem?] at h2 ⊢
      rw [Array.getElem?_eq_getElem (by omega)] at h2 ⊢
      simpa using h2
    · rw [ho] at h3
      simp only [Option.map_some, Option.getD_some, Array.all_eq_true_iff_forall_mem] at h3
      have := h3 e he
      rw [hb] at this; simpa using this
  · rintro ⟨h1, h2, o, ho, h3⟩
    refine ⟨h1, ?_, ?_⟩
    · rw [Array.getD_eq_getD_getElem?] at h2 ⊢
      rw [Array.getElem?_eq_getElem (by omega)] at h2 ⊢
      simpa using h2
    · rw [ho]
      simp only [Option.map_some, Option.getD_some, Array.all_eq_true_iff_forall_mem]
      intro e he
      cases hb : Region.binds .any e with
      | false => rfl
      | true => simpa using h3 e he hb
theorem ES_all (D : Dr P N ops call rb its sig) (hS : ∀ (k : Nat) (x : It), its[k]? = some x → x.k ≠ 5 → S x.i = true) : ∀ m, m ≤ its.length → ES its sig S m = (sig m).1 := by
  intro m
  induction m with
  | zero => intro _; rfl
  | succ m ih =>
    intro h
    have hu : its[m]? = some its[m] := List.getElem?_eq_getElem (by omega)
    generalize its[m] = y at hu
    simp only [ES, hu]
    by_cases h5 : y.k = 5
    · rw [if_neg (fun q => q.1 h5), D.chk hu h5]; exact ih (by omega)
    · rw [if_pos ⟨h5, hS m y hu h5⟩, (D.env hu h5).1, ih (by omega)]
theorem walk_any (D : Dr P N ops call rb its sig) (hcall : SoundC P call) (hrb : h0.next ≤ rb) (W : ∀ k, k ≤ its.length → Wit base N rb ops its sig k) {Q : Exit → Act → World → Prop}
    (hQ : ∀ a2 w2, St base N r0 h0 w0 (sig its.length).1 (sig its.length).2 a2 w2 → Q .normal a2 w2) :
    ∀ (fuel : Nat) (listed : Array Bool) (r : Rho) (a : Act) (w : World), listed.size = ops.size → Cl ops (lst listed) → cnt (lst listed) ops.size ≤ fuel → Inv P N rb ops its sig base r0 h0 w0 (lst listed) r a w → wpAny P .any ops Q fuel listed a w := by
  have fin : ∀ (listed : Array Bool) (r : Rho) (a : Act) (w : World), (∀ i, i < ops.size → lst listed i = true) → Inv P N rb ops its sig base r0 h0 w0 (lst listed) r a w → Q .normal a w := fun listed r a w hall I => by
    have hS : ∀ (k : Nat) (x : It), its[k]? = some x → x.k ≠ 5 → lst listed x.i = true := fun k x hk _ => hall _ (D.lt hk)
    obtain ⟨p1, p2⟩ := HS_pre (S := lst listed) D (k := its.length) its.length (Nat.le_refl _) (fun p y _ hy hk2 => hall _ (D.lt hy)) (Nat.le_refl _)
    refine hQ a w ⟨⟨r, ?_, I.rel.congr (fun n => (p2 n).symm) p1.symm, I.fr.congr (fun n => (p2 n).symm) p1.symm, I.fsh⟩, I.defers, I.size⟩
    rw [← ES_all D hS its.length (Nat.le_refl _)]; exact I.env
  have nil : ∀ (listed : Array Bool), listed.size = ops.size → Region.ready .any ops listed = [] → ∀ i, i < ops.size → lst listed i = true := fun listed hsz hr => by
    intro i
    induction i using Nat.strongRecOn with
    | _ i ih =>
      intro hi
      cases hl : lst listed i with
      | true => rfl
      | false =>
        have hm : i ∈ Region.ready .any ops listed := (mem_ready hsz).2 ⟨hi, hl, ops[i], Array.getElem?_eq_getElem hi, fun e he hb => by
          have := D.edge
          unfold edgesOK at this
          rw [List.all_eq_true] at this
          have := this i (List.mem_range.2 hi)
          rw [Array.getElem?_eq_getElem hi] at this
          simp only [List.all_eq_true, Bool.or_eq_true, decide_eq_true_eq] at this
          have hlt := (this e (by simpa using he)).resolve_left (by rw [hb]; simp)
          exact ih e.on hlt (by omega)⟩
        rw [hr] at hm; cases hm
  intro fuel
  induction fuel with
  | zero =>
    intro listed r a w hsz hC hc I
    have hall := cnt_zero (by omega : cnt (lst listed) ops.size = 0)
    refine ⟨?_, fin listed r a w hall I⟩
    cases hr : Region.ready .any ops listed with
    | nil => rfl
    | cons i l =>
      have hm : i ∈ Region.ready .any ops listed := by rw [hr]; exact List.mem_cons_self ..
      obtain ⟨q1, q2, _⟩ := (mem_ready hsz).1 hm
      rw [hall i q1] at q2; cases q2
  | succ fuel ih =>
    intro listed r a w hsz hC hc I
    refine ⟨fun hr => fin listed r a w (nil listed hsz hr) I, fun i hi => ?_⟩
    obtain ⟨q1, q2, o, q3, q4⟩ := (mem_ready hsz).1 hi
    have hC' : Cl ops (plus (lst listed) i) := fun j p hj hp e he hb => by
      by_cases hji : j = i
      · subst hji; rw [q3] at hp; cases hp; simp [plus, q4 e he hb]
      · rw [plus_ne _ hji] at hj; simp [plus, hC j p hj hp e he hb]
    unfold wpOp
    rw [q3]
    refine one_step D hcall hrb W hC q3 (fun j hj => ?_) q2 I fun r2 a2 w2 I2 => ?_
    · have := bef_closed hC' _ _ hj (plus_self _ i)
      simpa [plus] using this
    · have hp := cnt_plus q2 ops.size
      rw [if_pos q1] at hp
      have e1 := lst_set (listed := listed) (i := i) (by omega)
      exact ih _ r2 a2 w2 (by simpa using hsz) (by rw [e1]; exact hC') (by rw [e1]; omega) (by rw [e1]; exact I2)
theorem ES_none : ∀ m, ES its sig (fun _ => false) m = (sig 0).1 := by
  intro m
  induction m with
  | zero => rfl
  | succ m ih => simp only [ES]; split <;> simp [ih]
theorem HS_none : ∀ m, HS its sig rb (fun _ => false) m = (sig 0).2 := by
  intro m
  induction m with
  | zero => rfl
  | succ m ih => simp only [HS]; split <;> simp [ih]
theorem drawOK (hm : P.follows .mixedOrders = true) : DrawOK P := by
  intro N ops ds ss hok hc call hcall base r0 h0 w0 id e h a w e2 h2 Q E S hQ
  obtain ⟨sig, s0, s1, s2⟩ := sig_of ss e (h.up ops.size) e2 h2 E
  unfold okDraw at hok
  split at hok
  · rename_i its hits
    simp only [Bool.and_eq_true] at hok
    obtain ⟨⟨⟨⟨k1, k2⟩, k3⟩, k4⟩, k5⟩ := hok
    obtain ⟨l1, l2⟩ := its_spec ds ss its hc hits
    have D : Dr P N ops call h.next its sig := by
      refine ⟨fun k x hk => (l2 k x hk).1, fun k x hk => s2 k x.s (l2 k x hk).2, fun a b x y q1 q2 q3 => pairs_spec k2 a b x y q1 q2 q3, fun a b x y q1 q2 q3 q4 q5 q6 => chks_spec k3 b x y (.inr ⟨a, q1, q2⟩) q3 q4 q5 q6, fun k x hk => ?_, fun i hi => ?_, by rw [s0]; rfl, k1⟩
      · rw [List.all_eq_true] at k4; exact k4 x (List.mem_of_getElem? hk)
      · rw [List.all_eq_true] at k5
        have := k5 i (List.mem_range.2 hi)
        rw [List.any_eq_true] at this
        obtain ⟨x, hx, hx2⟩ := this
        rw [Bool.and_eq_true] at hx2
        obtain ⟨k, hk, hkx⟩ := List.getElem_of_mem hx
        exact ⟨k, x, by rw [List.getElem?_eq_getElem hk, hkx], by simpa using hx2.1, by simpa using hx2.2⟩
    obtain ⟨⟨r, he, R, F, Fs⟩, hd, hsz⟩ := S
    have R1 : Rel base r (h.up ops.size) w := R.up _
    have W0 : Wit base N h.next ops its sig 0 := by
      refine ⟨r, a, w, by rw [s0]; exact he, hsz, by rw [s0]; exact R1, by rw [s0]; exact Nat.le_refl _, fun p x _ _ _ => R.new _ (by omega)⟩
    have W := wit D hcall W0
    have hlst : lst (Array.replicate ops.size false) = fun _ => false := by
      funext i; unfold lst
      rw [Array.getD_eq_getD_getElem?, Array.getElem?_replicate]; split <;> rfl
    refine wp_region_any hm (walk_any D hcall F.next W (fun a2 w2 S2 => hQ a2 w2 (by rw [l1, s1] at S2; exact S2)) ops.size _ r a _ (by simp) (by rw [hlst]; intro i o q; cases q) ?_ ?_)
    · rw [hlst]
      have : ∀ n, cnt (fun _ => false) n ≤ n := by
        intro n
        induction n with
        | zero => simp [cnt]
        | succ n ih => simp only [cnt]; simp; omega
      exact this _
    · rw [hlst]
      have hR := R1.drew
      have hF := (F.trans (Fr.up base r h w ops.size)).drew
      refine ⟨by rw [ES_none, s0]; exact he, by rw [HS_none, s0]; exact hR, by rw [HS_none, s0]; exact hF, Fs, fun k x _ _ _ => R.new _ (by omega), hd, hsz, by rw [HS_none, s0]; exact Nat.le_refl _⟩
  · cases hok
end Go.Proofs.Ytkfjlbdedjoojaa.Am
namespace Go.Proofs.Ytkfjlbdedjoojaa.Am
open Go
set_option linter.unusedVariables false
set_option linter.unusedSimpArgs false
def LeC (c d : CallE) : Prop := ∀ f us h r, c f us h = some r → d f us h = some r
theorem stepE_mono {c d : CallE} (hc : LeC c d) {rb : Nat} {s : Step} {e : Env} {h : H} {r : Env × H} (E : stepE c rb s e h = some r) : stepE d rb s e h = some r := by
  cases s with
  | call dst g k xs =>
    simp only [stepE] at E ⊢
    split at E
    · rename_i hg
      split at E
      · rename_i vs hvs
        split at E
        · rename_i f us hw
          split at E
          · rename_i v h2 hcl
            rw [hc _ _ _ _ hcl]; exact E
          · cases E
        · cases E
      · cases E
    · exact E
    · cases E
  | op => exact E
  | opA => exact E
  | opR => exact E
  | chk => exact E
theorem stepsE_mono {c d : CallE} (hc : LeC c d) {rb : Nat} : ∀ {ss : List Step} {e : Env} {h : H} {r : Env × H}, stepsE c rb ss e h = some r → stepsE d rb ss e h = some r := by
  intro ss
  induction ss with
  | nil => intro e h r E; exact E
  | cons s ss ih =>
    intro e h r E
    simp only [stepsE] at E ⊢
    split at E
    · rename_i e2 h2 hs; rw [stepE_mono hc hs]; exact ih E
    · cases E
theorem loopE_mono {b1 b2 : Env → H → Option (Ex × Env × H)} (hb : ∀ e h r, b1 e h = some r → b2 e h = some r) {keep : List Nat} : ∀ {n m : Nat}, n ≤ m → ∀ {e : Env} {h : H} {r : Ex × Env × H}, loopE b1 keep n e h = some r → loopE b2 keep m e h = some r := by
  intro n
  induction n with
  | zero => intro m _ e h r E; cases E
  | succ n ih =>
    intro m hm e h r E
    obtain ⟨m, rfl⟩ : ∃ k, m = k + 1 := ⟨m - 1, by omega⟩
    simp only [loopE] at E ⊢
    split at E
    · rename_i e2 h2 hs; rw [hb _ _ _ hs]; exact ih (by omega) E
    · rename_i x e2 h2 hx hs; rw [hb _ _ _ hs]
      cases x with
      | norm => exact (hx rfl).elim
      | exit id => exact E
      | ret => exact E
    · cases E
theorem codeE_mono {c d : CallE} (hc : LeC c d) {n m : Nat} (hn : n ≤ m) : ∀ {ic : IC} {e : Env} {h : H} {r : Ex × Env × H}, codeE c n ic e h = some r → codeE d m ic e h = some r := by
  intro ic
  induction ic with
  | skip => intro e h r E; exact E
  | ret => intro e h r E; exact E
  | exit id => intro e h r E; exact E
  | seq a b iha ihb =>
    intro e h r E
    simp only [codeE] at E ⊢
    split at E
    · rename_i e2 h2 hs; rw [iha hs]; exact ihb E
    · rename_i x e2 h2 hx hs; rw [iha hs]
      cases x with
      | norm => exact (hx rfl).elim
      | exit id => exact E
      | ret => exact E
    · cases E
  | cond o a b iha ihb =>
    intro e h r E
    simp only [codeE] at E ⊢
    split at E
    · rename_i ho; exact iha E
    · rename_i ho; exact ihb E
    · cases E
  | block id b ih =>
    intro e h r E
    simp only [codeE] at E ⊢
    split at E
    · rename_i j e2 h2 hs; rw [ih hs]; exact E
    · rename_i x e2 h2 hx hs; rw [ih hs]
      cases x with
      | norm => exact E
      | exit id => exact (hx _ rfl).elim
      | ret => exact E
    · cases E
  | loop keep b ih => intro e h r E; simp only [codeE] at E ⊢; exact loopE_mono (fun e h r => ih) hn E
  | run ss keep =>
    intro e h r E
    simp only [codeE] at E ⊢
    split at E
    · rename_i e2 h2 hs; rw [stepsE_mono hc hs]; exact E
    · cases E
  | draw k ss keep =>
    intro e h r E
    simp only [codeE] at E ⊢
    split at E
    · rename_i e2 h2 hs; rw [stepsE_mono hc hs]; exact E
    · cases E
theorem runE_mono {tab : Nat → Option FD} : ∀ {n m : Nat}, n ≤ m → LeC (runE tab n) (runE tab m) := by
  intro n
  induction n with
  | zero => intro m _ f us h r E; cases E
  | succ n ih =>
    intro m hm f us h r E
    obtain ⟨m, rfl⟩ : ∃ k, m = k + 1 := ⟨m - 1, by omega⟩
    simp only [runE] at E ⊢
    split at E
    · rename_i F hF
      split at E
      · rename_i hl
        rw [if_pos hl]
        split at E
        · rename_i e2 h2 hs; rw [codeE_mono (ih (by omega)) (by omega) hs]; exact E
        · rename_i e2 h2 hs; rw [codeE_mono (ih (by omega)) (by omega) hs]; exact E
        · cases E
      · cases E
    · exact E
    · cases E
variable {tab : Nat → Option FD}
def RanS (tab : Nat → Option FD) (rb : Nat) (ss : List Step) (e : Env) (h : H) (e2 : Env) (h2 : H) : Prop := ∃ n, stepsE (runE tab n) rb ss e h = some (e2, h2)
def RanC (tab : Nat → Option FD) (ic : IC) (e : Env) (h : H) (x : Ex) (e2 : Env) (h2 : H) : Prop := ∃ n, codeE (runE tab n) n ic e h = some (x, e2, h2)
def Ran (tab : Nat → Option FD) (f : Nat) (us : List Value) (h : H) (v : Value) (h2 : H) : Prop := ∃ n, runE tab n f us h = some (v, h2)
theorem RanS.nil {rb : Nat} {e : Env} {h : H} : RanS tab rb [] e h e h := ⟨0, rfl⟩
theorem RanS.step {rb : Nat} {s : Step} {ss : List Step} {e e1 e2 : Env} {h h1 h2 : H} (hs : ∃ n, stepE (runE tab n) rb s e h = some (e1, h1)) (k : RanS tab rb ss e1 h1 e2 h2) : RanS tab rb (s :: ss) e h e2 h2 := by
  obtain ⟨n, hs⟩ := hs; obtain ⟨m, k⟩ := k
  refine ⟨max n m, ?_⟩
  simp only [stepsE]
  rw [stepE_mono (runE_mono (Nat.le_max_left n m)) hs]
  exact stepsE_mono (runE_mono (Nat.le_max_right n m)) k
theorem RanS.op {rb : Nat} {d : Option Nat} {g : Option (Nat × Bool)} {i : IOp} {ss : List Step} {e e2 : Env} {h h1 h2 : H} {v : Value} (hg : gd e g = some true) (ho : opE i e h none = some (v, h1)) (k : RanS tab rb ss (put e d v) h1 e2 h2) : RanS tab rb (.op d g i :: ss) e h e2 h2 :=
  .step ⟨0, by simp only [stepE, hg, ho]⟩ k
theorem RanS.off {rb : Nat} {d : Option Nat} {g : Option (Nat × Bool)} {i : IOp} {ss : List Step} {e e2 : Env} {h h2 : H} (hg : gd e g = some false) (k : RanS tab rb ss (put e d undef) h e2 h2) : RanS tab rb (.op d g i :: ss) e h e2 h2 :=
  .step ⟨0, by simp only [stepE, hg]⟩ k
theorem RanS.call {rb : Nat} {d : Option Nat} {g : Option (Nat × Bool)} {c : CK} {xs : List Operand} {ss : List Step} {e e2 : Env} {h h1 h2 : H} {v : Value} {vs us : List Value} {f : Nat} (hg : gd e g = some true) (hx : evs e xs = some vs) (hw : whom c e vs = some (f, us)) (hc : Ran tab f us h v h1) (k : RanS tab rb ss (put e d v) h1 e2 h2) : RanS tab rb (.call d g c xs :: ss) e h e2 h2 := by
  obtain ⟨n, hc⟩ := hc
  exact .step ⟨n, by simp only [stepE, hg, hx, hw, hc]⟩ k
theorem RanS.offC {rb : Nat} {d : Option Nat} {g : Option (Nat × Bool)} {c : CK} {xs : List Operand} {ss : List Step} {e e2 : Env} {h h2 : H} (hg : gd e g = some false) (k : RanS tab rb ss (put e d undef) h e2 h2) : RanS tab rb (.call d g c xs :: ss) e h e2 h2 :=
  .step ⟨0, by simp only [stepE, hg]⟩ k
theorem RanS.opA {rb k : Nat} {d : Option Nat} {g : Option (Nat × Bool)} {i : IOp} {ss : List Step} {e e2 : Env} {h h1 h2 : H} {v : Value} (hg : gd e g = some true) (ho : opE i e h (some (rb + k)) = some (v, h1)) (t : RanS tab rb ss (put e d v) h1 e2 h2) : RanS tab rb (.opA d g i k :: ss) e h e2 h2 :=
  .step ⟨0, by simp only [stepE, hg, ho]⟩ t
theorem same1_refl {v : Value} (h : plain1 v = true) : same1 v v = true := by
  unfold plain1 at h
  split at h <;> first | (simp [same1]; done) | cases h
theorem sameL_refl : ∀ {l : List Value}, l.all plain1 = true → sameL l l = true := by
  intro l
  induction l with
  | nil => intro _; rfl
  | cons v l ih => intro h; simp only [List.all_cons, Bool.and_eq_true] at h; simp only [sameL, same1_refl h.1, ih h.2, Bool.and_self]
def plainA : Value → Bool
  | .agg cs => cs.toList.all plain1
  | v => plain1 v
theorem sameV_one {v : Value} (h : plain1 v = true) : sameV v v = true := by
  have := same1_refl h
  cases v <;> first | exact this | (simp [plain1] at h; done)
theorem plainA_cases {v : Value} (h : plainA v = true) : (∃ cs, v = .agg cs ∧ cs.toList.all plain1 = true) ∨ plain1 v = true := by
  unfold plainA at h
  split at h
  · exact .inl ⟨_, rfl, h⟩
  · exact .inr h
theorem sameV_refl {v : Value} (h : plainA v = true) : sameV v v = true := by
  rcases plainA_cases h with ⟨cs, rfl, h⟩ | h
  · exact sameL_refl h
  · exact sameV_one h
theorem RanS.chk {rb d : Nat} {g : Option (Nat × Bool)} {i : IOp} {ss : List Step} {e e2 : Env} {h h1 h2 : H} {v : Value} (hg : gd e g = some true) (ho : opE i e h none = some (v, h1)) (hl : look e d = some v) (hp : sameV v v = true) (t : RanS tab rb ss e h e2 h2) : RanS tab rb (.chk d g i :: ss) e h e2 h2 :=
  .step ⟨0, by simp only [stepE, hg, ho, hl, hp, if_pos]⟩ t
theorem RanS.chkOff {rb d : Nat} {g : Option (Nat × Bool)} {i : IOp} {ss : List Step} {e e2 : Env} {h h2 : H} (hg : gd e g = some false) (t : RanS tab rb ss e h e2 h2) : RanS tab rb (.chk d g i :: ss) e h e2 h2 :=
  .step ⟨0, by simp only [stepE, hg]⟩ t
theorem H.get_new (h : H) (B : Blk) : (h.alloc B).get h.next = some B := by rw [H.get_alloc, if_pos rfl]
theorem H.get_old {h : H} {B B' : Blk} {n : Nat} (hn : n < h.next) (hg : h.get n = some B') : (h.alloc B).get n = some B' := by rw [H.get_alloc, if_neg (by omega)]; exact hg
theorem ld_at {h : H} {b off : Nat} {B : Blk} {v : Value} (hb : h.get b = some B) (hc : B.cells[off]? = some v) : h.ld ⟨b, off, none⟩ = some v := by simp only [H.ld, hb]; exact hc
theorem lds_at {h : H} {b off n : Nat} {B : Blk} (hb : h.get b = some B) (hc : off + n ≤ B.cells.length) : h.lds ⟨b, off, none⟩ n = some ((B.cells.drop off).take n) := by
  unfold H.lds
  by_cases h0 : n = 0
  · rw [if_pos h0, h0]; simp
  · rw [if_neg h0]; simp only [hb]; rw [if_pos hc]
theorem sts_at {h : H} {b off : Nat} {B : Blk} {v : Value} {vs : List Value} (hb : h.get b = some B) (hr : B.ro = false) (hc : off + (v :: vs).length ≤ B.cells.length) (ho : (v :: vs).all (·.oneCell') = true) : h.sts ⟨b, off, none⟩ (v :: vs) = some (h.set b (some ⟨splice B.cells off (v :: vs), B.es, false⟩)) := by
  simp only [H.sts, hb, hr]; rw [if_neg (by simp), if_pos ⟨hc, ho⟩]
theorem op_iaV {e : Env} {h : H} {x y : Operand} {a : Addr} {n c es : Nat} {k : IntKind} (j : Nat) (hx : ev e x = some (.slice (some a) n c)) (hi : ev e y = some (.int k (j : Int))) (hj : j < n) : opE (.iaV es x y) e h none = some (.pointer (some ⟨a.block, a.off + j * es, none⟩), h) := by
  simp only [opE, hx, hi]; rw [if_pos ⟨by omega, by omega⟩]; simp
theorem op_box {e : Env} {h : H} {x : Operand} {v : Value} (n : Nat) {cs : List Value} (hx : ev e x = some v) (hc : v.cells.toList = cs) (ho : cs.all (·.oneCell') = true) (hn : h.next = n) : opE (.box x) e h none = some (.pointer (some ⟨n, 0, none⟩), h.alloc ⟨cs, 0, false⟩) := by
  subst hc hn; simp only [opE, hx, H.mkb]; rw [if_pos ho]
theorem op_new {e : Env} {h : H} {z : List Value} (n : Nat) (hn : h.next = n) : opE (.new z) e h none = some (.pointer (some ⟨n, 0, none⟩), h.alloc ⟨z, 0, false⟩) := by
  subst hn; simp only [opE, H.mkb]
theorem op_bsl {e : Env} {h : H} {es len : Nat} {z cs : List Value} {ps : List (Nat × Nat × Operand)} {l : List (Nat × Nat × Value)} (n : Nat) (hp : evp e ps = some l) (hf : fillL z l = some cs) (ho : cs.all (·.oneCell') = true) (hn : h.next = n) : opE (.bsl es len z ps) e h none = some (.slice (some ⟨n, 0, none⟩) len (2 * len + 1), h.alloc ⟨cs, es, false⟩) := by
  subst hn; simp only [opE, hp, hf, H.mkb]; rw [if_pos ho]
theorem op_bslA {e : Env} {h : H} {es len m : Nat} {z cs : List Value} {ps : List (Nat × Nat × Operand)} {l : List (Nat × Nat × Value)} (n : Nat) (hp : evp e ps = some l) (hf : fillL z l = some cs) (ho : cs.all (·.oneCell') = true) (hn : m = n) : opE (.bsl es len z ps) e h (some m) = some (.slice (some ⟨n, 0, none⟩) len (2 * len + 1), h.set n (some ⟨cs, es, false⟩)) := by
  subst hn; simp only [opE, hp, hf, H.mkb]; rw [if_pos ho]
theorem op_ld1 {e : Env} {h : H} {x : Operand} {a : Addr} {v : Value} (hx : ev e x = some (.pointer (some a))) (hl : h.ld a = some v) : opE (.ld1 x) e h none = some (v, h) := by simp only [opE, hx, hl]
theorem op_ldN {e : Env} {h : H} {x : Operand} {a : Addr} {n : Nat} {vs : List Value} (hx : ev e x = some (.pointer (some a))) (hl : h.lds a n = some vs) : opE (.ldN n x) e h none = some (.agg vs.toArray, h) := by simp only [opE, hx, hl]
theorem op_st {e : Env} {h h2 : H} {x y : Operand} {a : Addr} {v : Value} {n : Nat} (hx : ev e x = some (.pointer (some a))) (hy : ev e y = some v) (hn : v.cells.toList.length = n) (hs : h.sts a v.cells.toList = some h2) : opE (.st n x y) e h none = some (undef, h2) := by
  simp only [opE, hx, hy]; rw [if_pos hn, hs]
theorem RanC.at {ic : IC} {e e2 : Env} {h h2 : H} {x : Ex} {n m : Nat} (E : codeE (runE tab n) n ic e h = some (x, e2, h2)) (hm : n ≤ m) : codeE (runE tab m) m ic e h = some (x, e2, h2) := codeE_mono (runE_mono hm) hm E
theorem RanC.skip {e : Env} {h : H} : RanC tab .skip e h .norm e h := ⟨0, rfl⟩
theorem RanC.ret {e : Env} {h : H} : RanC tab .ret e h .ret e h := ⟨0, rfl⟩
theorem RanC.exit {id : Nat} {e : Env} {h : H} : RanC tab (.exit id) e h (.exit id) e h := ⟨0, rfl⟩
theorem RanC.seq {a b : IC} {e e1 e2 : Env} {h h1 h2 : H} {x : Ex} (p : RanC tab a e h .norm e1 h1) (q : RanC tab b e1 h1 x e2 h2) : RanC tab (.seq a b) e h x e2 h2 := by
  obtain ⟨n, p⟩ := p; obtain ⟨m, q⟩ := q
  refine ⟨max n m, ?_⟩
  simp only [codeE]; rw [RanC.at p (Nat.le_max_left n m)]; exact RanC.at q (Nat.le_max_right n m)
theorem RanC.seqR {a b : IC} {e e1 : Env} {h h1 : H} (p : RanC tab a e h .ret e1 h1) : RanC tab (.seq a b) e h .ret e1 h1 := by
  obtain ⟨n, p⟩ := p; exact ⟨n, by simp only [codeE]; rw [p]⟩
theorem RanC.seqE {a b : IC} {e e1 : Env} {h h1 : H} {id : Nat} (p : RanC tab a e h (.exit id) e1 h1) : RanC tab (.seq a b) e h (.exit id) e1 h1 := by
  obtain ⟨n, p⟩ := p; exact ⟨n, by simp only [codeE]; rw [p]⟩
theorem RanC.condT {c : Operand} {a b : IC} {e e2 : Env} {h h2 : H} {x : Ex} (hc : ev e c = some (.bool true)) (p : RanC tab a e h x e2 h2) : RanC tab (.cond c a b) e h x e2 h2 := by
  obtain ⟨n, p⟩ := p; exact ⟨n, by simp only [codeE]; rw [hc]; exact p⟩
theorem RanC.condF {c : Operand} {a b : IC} {e e2 : Env} {h h2 : H} {x : Ex} (hc : ev e c = some (.bool false)) (p : RanC tab b e h x e2 h2) : RanC tab (.cond c a b) e h x e2 h2 := by
  obtain ⟨n, p⟩ := p; exact ⟨n, by simp only [codeE]; rw [hc]; exact p⟩
theorem RanC.blockN {id : Nat} {b : IC} {e e2 : Env} {h h2 : H} (p : RanC tab b e h .norm e2 h2) : RanC tab (.block id b) e h .norm e2 h2 := by
  obtain ⟨n, p⟩ := p; exact ⟨n, by simp only [codeE]; rw [p]⟩
theorem RanC.blockR {id : Nat} {b : IC} {e e2 : Env} {h h2 : H} (p : RanC tab b e h .ret e2 h2) : RanC tab (.block id b) e h .ret e2 h2 := by
  obtain ⟨n, p⟩ := p; exact ⟨n, by simp only [codeE]; rw [p]⟩
theorem RanC.blockE {id : Nat} {b : IC} {e e2 : Env} {h h2 : H} (p : RanC tab b e h (.exit id) e2 h2) : RanC tab (.block id b) e h .norm e2 h2 := by
  obtain ⟨n, p⟩ := p; exact ⟨n, by simp only [codeE]; rw [p]; simp⟩
theorem RanC.blockO {id j : Nat} {b : IC} {e e2 : Env} {h h2 : H} (hj : j ≠ id) (p : RanC tab b e h (.exit j) e2 h2) : RanC tab (.block id b) e h (.exit j) e2 h2 := by
  obtain ⟨n, p⟩ := p; exact ⟨n, by simp only [codeE]; rw [p]; simp [hj]⟩
theorem RanC.loop {keep : List Nat} {b : IC} {e e0 e1 e2 : Env} {h h1 h2 : H} {x : Ex} (hn : norm keep e = e0) (p : RanC tab b e0 h .norm e1 h1) (q : RanC tab (.loop keep b) e1 h1 x e2 h2) : RanC tab (.loop keep b) e h x e2 h2 := by
  subst hn
  obtain ⟨n, p⟩ := p; obtain ⟨m, q⟩ := q
  refine ⟨max n m + 1, ?_⟩
  simp only [codeE] at q ⊢
  simp only [loopE]
  rw [RanC.at p (by omega : n ≤ max n m + 1)]
  exact loopE_mono (fun e h r => codeE_mono (runE_mono (by omega)) (by omega)) (by omega : m ≤ max n m) q
theorem RanC.loopR {keep : List Nat} {b : IC} {e e0 e1 : Env} {h h1 : H} (hn : norm keep e = e0) (p : RanC tab b e0 h .ret e1 h1) : RanC tab (.loop keep b) e h .ret e1 h1 := by
  subst hn
  obtain ⟨n, p⟩ := p
  refine ⟨n + 1, ?_⟩
  simp only [codeE, loopE]; rw [RanC.at p (by omega : n ≤ n + 1)]
theorem RanC.loopE {keep : List Nat} {b : IC} {e e0 e1 : Env} {h h1 : H} {id : Nat} (hn : norm keep e = e0) (p : RanC tab b e0 h (.exit id) e1 h1) : RanC tab (.loop keep b) e h (.exit id) e1 h1 := by
  subst hn
  obtain ⟨n, p⟩ := p
  refine ⟨n + 1, ?_⟩
  simp only [codeE, Am.loopE]; rw [RanC.at p (by omega : n ≤ n + 1)]
theorem RanC.run {ss : List Step} {keep : List Nat} {e e1 : Env} (e2 : Env) {h h1 : H} (p : RanS tab 0 ss e h e1 h1) (hn : norm keep e1 = e2) : RanC tab (.run ss keep) e h .norm e2 h1 := by
  obtain ⟨n, p⟩ := p; exact ⟨n, by simp only [codeE]; rw [p, ← hn]⟩
theorem RanC.draw {m : Nat} {ss : List Step} {keep : List Nat} {e e1 : Env} (e2 : Env) {h h1 : H} (p : RanS tab h.next ss e (h.up m) e1 h1) (hn : norm keep e1 = e2) : RanC tab (.draw m ss keep) e h .norm e2 h1 := by
  obtain ⟨n, p⟩ := p; exact ⟨n, by simp only [codeE]; rw [p, ← hn]⟩
theorem Ran.codeR {f : Nat} {F : IFun} {us vs : List Value} {h h2 : H} {e2 : Env} (ht : tab f = some (.code F)) (hl : us.length = F.np) (hb : RanC tab F.body (mkEnv 0 us) h .ret e2 h2) (hr : resE F.rs e2 h2 = some vs) : Ran tab f us h (packE vs) h2 := by
  obtain ⟨n, hb⟩ := hb
  refine ⟨n + 1, ?_⟩
  simp only [runE, ht]; rw [if_pos hl, hb]; simp only [hr]
theorem Ran.codeN {f : Nat} {F : IFun} {us vs : List Value} {h h2 : H} {e2 : Env} (ht : tab f = some (.code F)) (hl : us.length = F.np) (hb : RanC tab F.body (mkEnv 0 us) h .norm e2 h2) (hr : resE F.rs e2 h2 = some vs) : Ran tab f us h (packE vs) h2 := by
  obtain ⟨n, hb⟩ := hb
  refine ⟨n + 1, ?_⟩
  simp only [runE, ht]; rw [if_pos hl, hb]; simp only [hr]
theorem Ran.spec {f : Nat} {g : List Value → H → Option (Value × H)} {us : List Value} {h h2 : H} {v : Value} (ht : tab f = some (.spec g)) (hg : g us h = some (v, h2)) : Ran tab f us h v h2 :=
  ⟨1, by simp only [runE, ht]; exact hg⟩
theorem Rel.below {base : Nat} {r : Rho} {h : H} {w w2 : World} (R : Rel base r h w) (b : Go.RowKit.Below w.heap.size w w2) : Rel base r h w2 ∧ Fr base r h w r h w2 := by
  refine ⟨⟨fun n B e => ?_, R.inj, R.new, Nat.le_trans R.size b.size, R.ro, fun n B L c e fz q1 q2 q3 q4 => by
    obtain ⟨L', _, _, _, k1, k2, _⟩ := R.cells n B q1
    rw [q3] at k1; cases k1
    rw [b.block _ (Array.getElem?_eq_some_iff.1 k2).1] at q4
    exact R.hid n B L c e fz q1 q2 q3 q4⟩, ⟨Rho.le_refl r, Nat.le_refl _, b.size, b.os, b.tape, b.output, fun k hk _ => b.block k hk, fun n B L h1 h2 h3 _ => ⟨n, B, L, h1, h2, h3, rfl⟩⟩⟩
  obtain ⟨L, c, el, fz, k1, k2, k3⟩ := R.cells n B e
  exact ⟨L, c, el, fz, k1, by rw [b.block _ (Array.getElem?_eq_some_iff.1 k2).1]; exact k2, k3⟩
theorem VR.plain1_inv {r : Rho} {v v' : Value} (hp : plain1 v = true) (h : VR r v v') : v' = v := by
  cases h <;> first | rfl | (simp [plain1] at hp; done) | skip
theorem VL.plain_inv {r : Rho} {l l' : List Value} (hp : l.all plain1 = true) (h : VL r l l') : l' = l := by
  apply List.ext_getElem?
  intro i
  cases hi : l[i]? with
  | none => rw [List.getElem?_eq_none_iff] at hi ⊢; rw [← h.1]; exact hi
  | some v =>
    obtain ⟨v', h1, h2⟩ := h.get hi
    rw [h1, VR.plain1_inv (List.all_eq_true.1 hp v (List.mem_of_getElem? hi)) h2]
theorem VR.plain_inv {r : Rho} {v v' : Value} (hp : plain v = true) (h : VR r v v') : v' = v := by
  cases h with
  | agg hx h1 =>
    simp only [plain] at hp
    have := VL.plain_inv hp (VL.ofArr hx h1)
    rw [Array.ext' this]
  | tuple hx h1 =>
    simp only [plain] at hp
    have := VL.plain_inv hp (VL.ofArr hx h1)
    rw [Array.ext' this]
  | bool b => rfl
  | int k n => rfl
  | string s => rfl
  | ptr0 => rfl
  | ptr h => simp [plain, plain1] at hp
  | sl0 => rfl
  | sl h h1 h2 h3 h4 => simp [plain, plain1] at hp
  | func fn hx h1 hy h2 => simp [plain, plain1] at hp
  | func0 => rfl
  | iface t k => simp [plain, plain1] at hp
  | iface0 => rfl
variable {P : Program}
theorem SoundF.quiet (hD : DrawOK P) (ht : TabOK P tab) {f : Nat} {g : List Value → H → Option (Value × H)}
    (hg : ∀ us h v h2, g us h = some (v, h2) → h2 = h ∧ plain v = true ∧ ∃ (us0 : List Value) (h0 h3 : H) (m : Nat → Nat), Ran tab f us0 h0 v h3 ∧
      (∀ k, h0.next ≤ k → h0.get k = none) ∧ (∀ k B, h0.get k = some B → B.ro = true ∧ ∃ B', h.get (m k) = some B' ∧ B'.es = B.es ∧ B'.cells = B.cells ∧ B.cells.all plain1 = true) ∧
      (∀ r us', VL r us us' → VL (fun k => if (h0.get k).isSome then r (m k) else none) us0 us')) : SoundF P f g := by
  intro base r h w us us' v h2 E hv R
  obtain ⟨rfl, hp, us0, h0, h3, m, ⟨n, hrun⟩, e1, e2, e3⟩ := hg us h v h2 E
  have R0 : Rel w.heap.size (fun k => if (h0.get k).isSome then r (m k) else none) h0 w := by
    refine ⟨fun k B hB => ?_, fun k j Bk Bj L M q1 q2 q3 q4 => ?_, fun k hk => by simp [e1 k hk], Nat.le_refl _, fun k B L hB hro hL => ?_, fun k B L c el fz q1 q2 => by rw [(e2 k B q1).1] at q2; cases q2⟩
    · obtain ⟨hro, B', g1, g2, g3, g4⟩ := e2 k B hB
      obtain ⟨L, c, el, fz, k1, k2, k3, k4, k5, k6, k7⟩ := R.cells _ B' g1
      refine ⟨L, c, el, fz, by simp [hB, k1], k2, by rw [k3, g2], by rw [← g3]; exact k4, k5, fun q => by (rw [hro] at q; cases q), fun i u hu => ?_⟩
      rw [← g3] at hu
      obtain ⟨j1, u', j2, j3⟩ := k7 i u hu
      have hpu := List.all_eq_true.1 g4 u (by rw [← g3]; exact List.mem_of_getElem? hu)
      rw [VR.plain1_inv hpu j3] at j2
      exact ⟨j1, u, j2, VR.of_plain1 hpu⟩
    · rw [(e2 k Bk q1).1] at q4; cases q4
    · obtain ⟨_, B', g1, _⟩ := e2 k B hB
      obtain ⟨L', c, el, fz, k1, k2, _⟩ := R.cells _ B' g1
      simp only [hB, Option.isSome_some, if_true] at hL
      rw [hL] at k1; cases k1
      exact (Array.getElem?_eq_some_iff.1 k2).1
  obtain ⟨hc, hcalls⟩ := run_table hD ht n f w.heap.size _ h0 w us0 us' v h3 hrun (e3 r us' hv) R0
  refine ⟨hc, hcalls.mono fun x w2 hx => ?_⟩
  obtain ⟨r2, v', rfl, hvv, _, F, _⟩ := hx
  have hv' := VR.plain_inv hp hvv
  subst hv'
  obtain ⟨B1, B2⟩ := R.below (F.below R0)
  exact ⟨r, v', rfl, VR.of_plain hp, B1, B2, Fsh.refl none r h2⟩
theorem SoundF.closed (hD : DrawOK P) (ht : TabOK P tab) {f : Nat} {v : Value} {h3 : H} (hp : plain v = true) (hr : Ran tab f [] ⟨.leaf, 0⟩ v h3) : SoundF P f (fun us h => if us = [] then some (v, h) else none) :=
  SoundF.quiet hD ht fun us h v' h2 E => by
    split at E
    · rename_i hu; cases E; subst hu
      exact ⟨rfl, hp, [], ⟨.leaf, 0⟩, h3, id, hr, fun k _ => rfl, fun k B q => by (cases q), fun r us' hv => ⟨hv.1, fun i v v' q => by simp at q⟩⟩
    · cases E
end Go.Proofs.Ytkfjlbdedjoojaa.Am
