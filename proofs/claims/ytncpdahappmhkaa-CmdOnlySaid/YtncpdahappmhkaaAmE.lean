/- The abstract machine's operations are the model's: the second half. -/
import Derived.Test.YtncpdahappmhkaaAmD
import Derived.Laws.Tables
namespace Go.Proofs.Ytncpdahappmhkaa.Am
open Go
set_option linter.unusedVariables false
set_option linter.unusedSimpArgs false

theorem fold_set : ∀ (l : List Value) (k off : Nat) (c : Array Value), off + k + l.length ≤ c.size →
    ((l.zipIdx k).foldl (fun (cs : Array Value) (p : Value × Nat) => cs.setIfInBounds (off + p.2) p.1) c).size = c.size ∧
    ∀ i, ((l.zipIdx k).foldl (fun (cs : Array Value) (p : Value × Nat) => cs.setIfInBounds (off + p.2) p.1) c)[i]? = if off + k ≤ i ∧ i < off + k + l.length then l[i - (off + k)]? else c[i]? := by
  intro l
  induction l with
  | nil => intro k off c _; exact ⟨rfl, fun i => by rw [if_neg (by simp)]; rfl⟩
  | cons v l ih =>
    intro k off c hle
    simp only [List.length_cons] at hle
    obtain ⟨h1, h2⟩ := ih (k + 1) off (c.setIfInBounds (off + k) v) (by simp; omega)
    simp only [List.zipIdx_cons, List.foldl_cons]
    refine ⟨by rw [h1]; simp, fun i => ?_⟩
    rw [h2 i]
    by_cases q : i = off + k
    · subst q
      rw [if_neg (by omega), if_pos (by simp), Array.getElem?_setIfInBounds_self_of_lt (by omega), Nat.sub_self, List.getElem?_cons_zero]
    · by_cases q2 : off + (k + 1) ≤ i ∧ i < off + (k + 1) + l.length
      · rw [if_pos q2, if_pos (by simp; omega)]
        have : i - (off + k) = (i - (off + (k + 1))) + 1 := by omega
        rw [this]; simp
      · rw [if_neg q2, if_neg (by simp; omega), Array.getElem?_setIfInBounds_ne (by omega)]
theorem fold_splice (v : Array Value) (off : Nat) (c : Array Value) (h : off + v.size ≤ c.size) :
    (v.zipIdx.foldl (fun (cs : Array Value) (p : Value × Nat) => cs.setIfInBounds (off + p.2) p.1) c).toList = splice c.toList off v.toList := by
  have e : v.zipIdx.foldl (fun (cs : Array Value) (p : Value × Nat) => cs.setIfInBounds (off + p.2) p.1) c = (v.toList.zipIdx 0).foldl (fun (cs : Array Value) (p : Value × Nat) => cs.setIfInBounds (off + p.2) p.1) c := by
    rw [← Array.foldl_toList]; simp
  obtain ⟨h1, h2⟩ := fold_set v.toList 0 off c (by simpa using h)
  rw [e]
  refine List.ext_getElem? fun i => ?_
  rw [splice_get (by simpa using h)]
  have := h2 i
  simp only [Nat.add_zero] at this
  rw [Array.getElem?_toList, this]; simp

theorem VL.splice {r : Rho} {l l' m m' : List Value} (h : VL r l l') (k : VL r m m') (i : Nat) : VL r (Am.splice l i m) (Am.splice l' i m') := by
  unfold Am.splice; rw [← k.1]; exact ((h.take i).append k).append (h.drop _)

theorem fill_sound {r : Rho} (place : Nat → Option (Nat × Nat)) : ∀ (l : List (Nat × Nat × Value)) (l' : List (Nat × Value)), l.length = l'.length →
    (∀ (i o n : Nat) (v : Value) (k : Nat) (v' : Value), l[i]? = some (o, n, v) → l'[i]? = some (k, v') → place k = some (o, n) ∧ VR r v v') →
    ∀ (z : List Value) (zc : Array Value) (cs : List Value), VL r z zc.toList → fillL z l = some cs → ∃ cc, Instr.fill place zc l' = some cc ∧ VL r cs cc.toList := by
  intro l
  induction l with
  | nil => intro l' hl _ z zc cs hz hf; cases l' with | nil => cases hf; exact ⟨zc, rfl, hz⟩ | cons => simp at hl
  | cons p l ih =>
    intro l' hl hr z zc cs hz hf
    obtain ⟨o, n, v⟩ := p
    cases l' with
    | nil => simp at hl
    | cons p' l' =>
      obtain ⟨k, v'⟩ := p'
      obtain ⟨h1, h2⟩ := hr 0 o n v k v' rfl rfl
      simp only [fillL] at hf
      split at hf
      · rename_i hc
        have k2 := h2.cells
        have e1 : v'.cells.size = n := by have := k2.1; simp only [Array.length_toList] at this; simp only [Array.length_toList] at hc; omega
        have e2 : o + n ≤ zc.size := by have := hz.1; simp only [Array.length_toList] at this; omega
        have hz2 : VL r (Am.splice z o v.cells.toList) (v'.cells.zipIdx.foldl (fun (cs : Array Value) (p : Value × Nat) => cs.setIfInBounds (o + p.2) p.1) zc).toList := by
          rw [fold_splice _ _ _ (by omega)]; exact hz.splice k2 o
        obtain ⟨cc, g1, g2⟩ := ih l' (by simpa using hl) (fun i o n v k v' q1 q2 => hr (i + 1) o n v k v' (by simpa using q1) (by simpa using q2)) _ _ cs hz2 hf
        refine ⟨cc, ?_, g2⟩
        simp only [Instr.fill, h1]
        rw [if_neg (by simp [e1]; omega)]
        exact g1
      · cases hf

theorem evp_sound {r : Rho} {e : Env} {a : Act} (he : EnvR r e a.tmps) : ∀ {ps : List (Nat × Nat × Operand)} {l : List (Nat × Nat × Value)}, evp e ps = some l →
    l.length = ps.length ∧ ∀ (i : Nat) o n x, ps[i]? = some (o, n, x) → ∃ v, l[i]? = some (o, n, v) ∧ VR r v (a.eval x) := by
  intro ps
  induction ps with
  | nil => intro l h; cases h; exact ⟨rfl, fun i o n x h => by simp at h⟩
  | cons p ps ih =>
    intro l h
    obtain ⟨o, n, x⟩ := p
    simp only [evp] at h
    split at h
    · rename_i v hv
      split at h
      · rename_i l2 hl2; cases h
        obtain ⟨g1, g2⟩ := ih hl2
        refine ⟨by simp [g1], fun i o' n' x' q => ?_⟩
        cases i with
        | zero => simp at q; obtain ⟨rfl, rfl, rfl⟩ := q; exact ⟨v, rfl, ev_sound he hv⟩
        | succ i => simp at q; obtain ⟨u, q1, q2⟩ := g2 i o' n' x' q; exact ⟨u, by simpa using q1, q2⟩
      · cases h
    · cases h

theorem partsS_spec {P : Program} {fs : Array Field} : ∀ {ps : List (Nat × Operand)} {l : List (Nat × Nat × Operand)}, partsS P fs ps = some l →
    l.length = ps.length ∧ ∀ (i : Nat) k x, ps[i]? = some (k, x) → ∃ f n, fs[k]? = some f ∧ szOf P f.type = some n ∧ l[i]? = some (f.offset, n, x) := by
  intro ps
  induction ps with
  | nil => intro l h; cases h; exact ⟨rfl, fun i k x h => by simp at h⟩
  | cons p ps ih =>
    intro l h
    obtain ⟨k, x⟩ := p
    simp only [partsS] at h
    split at h
    · rename_i f hf
      split at h
      · rename_i n hn
        split at h
        · rename_i l2 hl2; cases h
          obtain ⟨g1, g2⟩ := ih hl2
          refine ⟨by simp [g1], fun i k' x' q => ?_⟩
          cases i with
          | zero => simp at q; obtain ⟨rfl, rfl⟩ := q; exact ⟨f, n, hf, hn, rfl⟩
          | succ i => simp at q; obtain ⟨f', n', q1, q2, q3⟩ := g2 i k' x' q; exact ⟨f', n', q1, q2, by simpa using q3⟩
        · cases h
      · cases h
    · cases h

theorem places_of {P : Program} : ∀ {fs : List Field}, fs.all (fun f => (szOf P f.type).isSome) = true → ∃ pl, fs.mapM (fun f => (P.info? f.type).map fun i => (f.offset, i.size)) = some pl ∧
    ∀ (k : Nat) f n, fs[k]? = some f → szOf P f.type = some n → pl[k]? = some (f.offset, n) := by
  intro fs
  induction fs with
  | nil => intro _; exact ⟨[], rfl, fun k f n h => by simp at h⟩
  | cons g fs ih =>
    intro h
    simp only [List.all_cons, Bool.and_eq_true] at h
    obtain ⟨pl, h1, h2⟩ := ih h.2
    obtain ⟨n, hn⟩ := Option.isSome_iff_exists.1 h.1
    obtain ⟨i, hi, rfl⟩ := info_of_szOf hn
    refine ⟨(g.offset, i.size) :: pl, by simp [List.mapM_cons, hi, h1], fun k f m q1 q2 => ?_⟩
    cases k with
    | zero => simp at q1; subst q1; rw [hn] at q2; cases q2; rfl
    | succ k => simp at q1; simpa using h2 k f m q1 q2

variable {P : Program} {base : Nat} {r : Rho} {h h2 : H} {w : World} {e : Env} {a : Act} {nm : Option Nat} {v : Value}

theorem VL.zero {z : List Value} (hp : z.all plain1 = true) : VL r z z := VR.of_plainL hp

theorem zrep_length (z : List Value) (n : Nat) : (zrep z n).length = n * z.length := by
  induction n with
  | zero => simp [zrep]
  | succ n ih => simp only [zrep, List.length_append, ih]; rw [Nat.succ_mul]; omega
theorem zrep_get (z : List Value) : ∀ (n i : Nat), i < n * z.length → (zrep z n)[i]? = z[i % z.length]? := by
  intro n
  induction n with
  | zero => intro i h; simp at h
  | succ n ih =>
    intro i h
    rw [Nat.succ_mul] at h
    simp only [zrep, List.getElem?_append]
    split
    · rename_i hi; rw [Nat.mod_eq_of_lt hi]
    · rename_i hi
      rw [ih _ (by omega), Nat.mod_eq_sub_mod (a := i) (by omega)]
theorem zrep_plain {z : List Value} (hp : z.all plain1 = true) (n : Nat) : (zrep z n).all plain1 = true := by
  induction n with
  | zero => rfl
  | succ n ih => simp only [zrep, List.all_append, hp, ih, Bool.and_self]
theorem zrep_array (z : Array Value) (n : Nat) : ((Array.range (n * z.size)).map (z[· % z.size]!)).toList = zrep z.toList n := by
  refine List.ext_getElem? fun i => ?_
  rcases Nat.lt_or_ge i (n * z.size) with hi | hi
  · have hp : 0 < z.size := by rcases Nat.eq_zero_or_pos z.size with h0 | h0; · rw [h0] at hi; simp at hi
                               · exact h0
    have hm := Nat.mod_lt i hp
    rw [zrep_get _ _ _ (by simpa using hi)]
    simp [hi, hm]
  · rw [List.getElem?_eq_none (by simpa using hi), List.getElem?_eq_none (by rw [zrep_length]; simpa using hi)]
theorem zeroCells_list (z : Array Value) (n : Nat) : (Builtin.zeroCells z n).toList = zrep z.toList n := by
  unfold Builtin.zeroCells
  exact zrep_array z n

section ops

theorem s_buildS (R : Rel base r h w) (he : EnvR r e a.tmps) (hnm : ∀ n, nm = some n → n < h.next ∧ r n = none) {t : TypeId} {z : List Value} {fs : Array Field} {ps : Array (Nat × Operand)} {l : List (Nat × Nat × Operand)} {o : Oper} (ho : o.op = .build t ps) (hz : zeroL P t = some z)
    (ht : P.underlying t = some (.struct fs)) (hf : fs.toList.all (fun f => (szOf P f.type).isSome) = true) (hp : partsS P fs ps.toList = some l) (E : opE (.build z l) e h nm = some (v, h2)) :
    Stp base nm r h w v h2 ((execOp a.eval o).run P w) := by
  simp only [opE] at E
  split at E
  · rename_i vs hvs
    split at E
    · rename_i cs hcs; cases E
      obtain ⟨i, zv, q1, q2, q3, q4, q5⟩ := zeroL_spec hz
      obtain ⟨pl, p1, p2⟩ := places_of hf
      obtain ⟨s1, s2⟩ := partsS_spec hp
      obtain ⟨t1, t2⟩ := evp_sound he hvs
      obtain ⟨cc, g1, g2⟩ := fill_sound (r := r) (fun k => pl[k]?) vs (ps.toList.map fun p => (p.1, a.eval p.2)) (by simp [t1, s1]) (fun j o n u k u' q1 q2 => by
        rw [List.getElem?_map] at q2
        cases hpj : ps.toList[j]? with
        | none => rw [hpj] at q2; cases q2
        | some p =>
          rw [hpj] at q2; cases q2
          obtain ⟨f, m, f1, f2, f3⟩ := s2 j p.1 p.2 hpj
          obtain ⟨y, y1, y2⟩ := t2 j _ _ _ f3
          rw [q1] at y1; cases y1
          exact ⟨p2 _ f _ (by simpa using f1) f2, y2⟩) z zv.cells cs (by rw [q3]; exact VR.of_plainL q4) hcs
      refine Stp.pure' R (v' := .agg cc) (by have := VR.ofAgg g2; simpa using this) ?_
      have hb : P.built t (ps.map fun (i, x) => (i, a.eval x)).toList = some cc := by
        unfold Program.built
        simp only [q1, ht, q2, p1]
        have : (ps.map fun (i, x) => (i, a.eval x)).toList = ps.toList.map fun p => (p.1, a.eval p.2) := by simp
        rw [this]; simpa using g1
      simp only [execOp, ho, Sem.run_bind, run_build w t _ cc hb, Result.andThen_ok]; rfl
    · cases E
  · cases E

theorem s_buildA (R : Rel base r h w) (he : EnvR r e a.tmps) (hnm : ∀ n, nm = some n → n < h.next ∧ r n = none) {t el : TypeId} {n s : Nat} {z : List Value} {ps : Array (Nat × Operand)} {o : Oper} (ho : o.op = .build t ps) (hz : zeroL P t = some z)
    (ht : P.underlying t = some (.array n el)) (hs : szOf P el = some s) (E : opE (.build z (ps.toList.map fun p => (p.1 * s, s, p.2))) e h nm = some (v, h2)) :
    Stp base nm r h w v h2 ((execOp a.eval o).run P w) := by
  simp only [opE] at E
  split at E
  · rename_i vs hvs
    split at E
    · rename_i cs hcs; cases E
      obtain ⟨i, zv, q1, q2, q3, q4, q5⟩ := zeroL_spec hz
      obtain ⟨ie, hie, rfl⟩ := info_of_szOf hs
      obtain ⟨t1, t2⟩ := evp_sound he hvs
      obtain ⟨cc, g1, g2⟩ := fill_sound (r := r) (fun k => some (k * ie.size, ie.size)) vs (ps.toList.map fun p => (p.1, a.eval p.2)) (by simp [t1]) (fun j o n u k u' q1 q2 => by
        rw [List.getElem?_map] at q2
        cases hpj : ps.toList[j]? with
        | none => rw [hpj] at q2; cases q2
        | some p =>
          rw [hpj] at q2; cases q2
          obtain ⟨y, y1, y2⟩ := t2 j (p.1 * ie.size) ie.size p.2 (by rw [List.getElem?_map, hpj]; rfl)
          rw [q1] at y1; cases y1
          exact ⟨rfl, y2⟩) z zv.cells cs (by rw [q3]; exact VR.of_plainL q4) hcs
      refine Stp.pure' R (v' := .agg cc) (by have := VR.ofAgg g2; simpa using this) ?_
      have hb : P.built t (ps.map fun (i, x) => (i, a.eval x)).toList = some cc := by
        unfold Program.built
        simp only [q1, ht, q2, hie]
        have : (ps.map fun (i, x) => (i, a.eval x)).toList = ps.toList.map fun p => (p.1, a.eval p.2) := by simp
        rw [this]; exact g1
      simp only [execOp, ho, Sem.run_bind, run_build w t _ cc hb, Result.andThen_ok]; rfl
    · cases E
  · cases E

theorem s_bsl (R : Rel base r h w) (he : EnvR r e a.tmps) (hnm : ∀ n, nm = some n → n < h.next ∧ r n = none) {t el : TypeId} {n : Nat} {z : List Value} {ps : Array (Nat × Operand)} {o : Oper} (ho : o.op = .buildSlice t n ps) (hz : zeroL P el = some z)
    (ht : P.underlying t = some (.slice el)) (hle : n * z.length ≤ 16777216) (E : opE (.bsl z.length n (zrep z n) (ps.toList.map fun p => (p.1 * z.length, z.length, p.2))) e h nm = some (v, h2)) :
    Stp base nm r h w v h2 ((execOp a.eval o).run P w) := by
  simp only [opE] at E
  split at E
  · rename_i vs hvs
    split at E
    · rename_i cs hcs
      split at E
      · rename_i h1; cases E
        obtain ⟨i, zv, q1, q2, q3, q4, q5⟩ := zeroL_spec hz
        have qs : zv.cells.size = i.size := by rw [← q5, ← q3]; simp
        obtain ⟨t1, t2⟩ := evp_sound he hvs
        rw [q5] at hvs t2 hle
        obtain ⟨cc, g1, g2⟩ := fill_sound (r := r) (fun k => some (k * i.size, i.size)) vs (ps.toList.map fun p => (p.1, a.eval p.2)) (by simp [t1]) (fun j o n u k u' q1 q2 => by
          rw [List.getElem?_map] at q2
          cases hpj : ps.toList[j]? with
          | none => rw [hpj] at q2; cases q2
          | some p =>
            rw [hpj] at q2; cases q2
            obtain ⟨y, y1, y2⟩ := t2 j (p.1 * i.size) i.size p.2 (by rw [List.getElem?_map, hpj]; rfl)
            rw [q1] at y1; cases y1
            exact ⟨rfl, y2⟩) (zrep z n) ((Array.range (n * i.size)).map ((if n * i.size = 0 then #[] else zv.cells)[· % (if n * i.size = 0 then (#[] : Array Value) else zv.cells).size]!)) cs (by
          have : ((Array.range (n * i.size)).map ((if n * i.size = 0 then #[] else zv.cells)[· % (if n * i.size = 0 then (#[] : Array Value) else zv.cells).size]!)).toList = zrep z n := by
            by_cases h0 : n * i.size = 0
            · rw [h0]; simp
              exact List.eq_nil_of_length_eq_zero (by rw [zrep_length, q5]; exact h0)
            · simp only [if_neg h0]
              rw [← qs, zrep_array, q3]
          rw [this]; exact VR.of_plainL (zrep_plain q4 n)) hcs
        obtain ⟨r2, k1, k2, k3, k4⟩ := R.mkb (cs := cs) (c := cc) (t := el) (es := z.length) (lim := cs.length) hnm (Nat.le_refl _) (by rw [g2.1]; simp) (fun j u hu => by
          obtain ⟨y1, y2, y3, y4⟩ := g2.cells_of h1 [] j u hu
          exact ⟨y1, y2, by simpa using y3, y4⟩)
        refine ⟨r2, _, .slice (some ⟨w.heap.size, 0, none⟩) n n, .inl ?_, .sl (.inl (AR.at k1 rfl)) (Nat.le_refl _) (by omega) (fun _ => by omega) (fun q => by omega), k2, k3, k4⟩
        have hf : Instr.fill (fun k => some (k * i.size, i.size)) ((Array.range (n * i.size)).map ((if n * i.size = 0 then #[] else zv.cells)[· % (if n * i.size = 0 then (#[] : Array Value) else zv.cells).size]!)) (ps.map fun (i, x) => (i, a.eval x)).toList = some cc := by
          have : (ps.map fun (i, x) => (i, a.eval x)).toList = ps.toList.map fun p => (p.1, a.eval p.2) := by simp
          rw [this]; exact g1
        by_cases h0 : n * i.size = 0
        · simp only [if_pos h0] at hf
          simp [execOp, ho, Instr.buildSlice, run_underlying ht, run_sizeOf' q1, h0] at hf ⊢
          simp [hf, newRow]
        · simp only [if_neg h0] at hf
          have hg : ¬ (n * i.size > 2 ^ 24) := by omega
          simp only [execOp, ho, Instr.buildSlice, Sem.run_bind, run_underlying ht, run_sizeOf' q1, Result.andThen_ok, if_neg hg, if_neg h0, run_zero' q1 q2, Sem.run_pure, Functor.map, Sem.run_ite]
          rw [hf]
          simp [newRow]
      · cases E
    · cases E
  · cases E
end ops
end Go.Proofs.Ytncpdahappmhkaa.Am
