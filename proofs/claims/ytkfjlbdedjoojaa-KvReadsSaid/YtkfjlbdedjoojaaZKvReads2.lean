/- The law 'KvReads' returns true for all arguments: what its proof stands on, part 2. -/
import Derived.Test.YtkfjlbdedjoojaaZKvReads1
import Derived.Laws.Tables
namespace Go.Proofs.Ytkfjlbdedjoojaa.Am
open Go
set_option linter.unusedVariables false
set_option linter.unusedSimpArgs false
theorem fold_set : ∀ (l : List Value) (k off : Nat) (c : Array Value), off + k + l.length ≤ c.size →
    ((l.zipIdx k).foldl (fun (cs : Array Value) (p : Value × Nat) => cs.setIfInBounds (off + p.2) p.1) c).size = c.size ∧
    ∀ i, ((l.zipIdx k).foldl (fun (cs : Array Value) (p : Value × Nat) => cs.setIfInBounds (off + p.2) p.1) c)[i]? = if off + k ≤ i ∧ i < off + k + l.length then l[i - (off + k)]? else c[i]? := by
  intro l
  induction l with
  | nil => intro k off c _; exact ⟨rfl, fun i => by rw [if_neg (by simp)]; rfl⟩
  | cons v l ih =>
    intro k off c hle
    simp only [List.length_cons] at hle
    obtain ⟨h1, h2⟩ := ih (k + 1) off (c.setIfInBounds (off + k) v) (by simp; omega)
    simp only [List.zipIdx_cons, List.foldl_cons]
    refine ⟨by rw [h1]; simp, fun i => ?_⟩
    rw [h2 i]
    by_cases q : i = off + k
    · subst q
      rw [if_neg (by omega), if_pos (by simp), Array.getElem?_setIfInBounds_self_of_lt (by omega), Nat.sub_self, List.getElem?_cons_zero]
    · by_cases q2 : off + (k + 1) ≤ i ∧ i < off + (k + 1) + l.length
      · rw [if_pos q2, if_pos (by simp; omega)]
        have : i - (off + k) = (i - (off + (k + 1))) + 1 := by omega
        rw [this]; simp
      · rw [if_neg q2, if_neg (by simp; omega), Array.getElem?_setIfInBounds_ne (by omega)]
theorem fold_splice (v : Array Value) (off : Nat) (c : Array Value) (h : off + v.size ≤ c.size) :
    (v.zipIdx.foldl (fun (cs : Array Value) (p : Value × Nat) => cs.setIfInBounds (off + p.2) p.1) c).toList = splice c.toList off v.toList := by
  have e : v.zipIdx.foldl (fun (cs : Array Value) (p : Value × Nat) => cs.setIfInBounds (off + p.2) p.1) c = (v.toList.zipIdx 0).foldl (fun (cs : Array Value) (p : Value × Nat) => cs.setIfInBounds (off + p.2) p.1) c := by
    rw [← Array.foldl_toList]; simp
  obtain ⟨h1, h2⟩ := fold_set v.toList 0 off c (by simpa using h)
  rw [e]
  refine List.ext_getElem? fun i => ?_
  rw [splice_get (by simpa using h)]
  have := h2 i
  simp only [Nat.add_zero] at this
  rw [Array.getElem?_toList, this]; simp
theorem VL.splice {r : Rho} {l l' m m' : List Value} (h : VL r l l') (k : VL r m m') (i : Nat) : VL r (Am.splice l i m) (Am.splice l' i m') := by
  unfold Am.splice; rw [← k.1]; exact ((h.take i).append k).append (h.drop _)
theorem fill_sound {r : Rho} (place : Nat → Option (Nat × Nat)) : ∀ (l : List (Nat × Nat × Value)) (l' : List (Nat × Value)), l.length = l'.length →
    (∀ (i o n : Nat) (v : Value) (k : Nat) (v' : Value), l[i]? = some (o, n, v) → l'[i]? = some (k, v') → place k = some (o, n) ∧ VR r v v') →
    ∀ (z : List Value) (zc : Array Value) (cs : List Value), VL r z zc.toList → fillL z l = some cs → ∃ cc, Instr.fill place zc l' = some cc ∧ VL r cs cc.toList := by
  intro l
  induction l with
  | nil => intro l' hl _ z zc cs hz hf; cases l' with | nil => cases hf; exact ⟨zc, rfl, hz⟩ | cons => simp at hl
  | cons p l ih =>
    intro l' hl hr z zc cs hz hf
    obtain ⟨o, n, v⟩ := p
    cases l' with
    | nil => simp at hl
    | cons p' l' =>
      obtain ⟨k, v'⟩ := p'
      obtain ⟨h1, h2⟩ := hr 0 o n v k v' rfl rfl
      simp only [fillL] at hf
      split at hf
      · rename_i hc
        have k2 := h2.cells
        have e1 : v'.cells.size = n := by have := k2.1; simp only [Array.length_toList] at this; simp only [Array.length_toList] at hc; omega
        have e2 : o + n ≤ zc.size := by have := hz.1; simp only [Array.length_toList] at this; omega
        have hz2 : VL r (Am.splice z o v.cells.toList) (v'.cells.zipIdx.foldl (fun (cs : Array Value) (p : Value × Nat) => cs.setIfInBounds (o + p.2) p.1) zc).toList := by
          rw [fold_splice _ _ _ (by omega)]; exact hz.splice k2 o
        obtain ⟨cc, g1, g2⟩ := ih l' (by simpa using hl) (fun i o n v k v' q1 q2 => hr (i + 1) o n v k v' (by simpa using q1) (by simpa using q2)) _ _ cs hz2 hf
        refine ⟨cc, ?_, g2⟩
        simp only [Instr.fill, h1]
        rw [if_neg (by simp [e1]; omega)]
        exact g1
      · cases hf
theorem evp_sound {r : Rho} {e : Env} {a : Act} (he : EnvR r e a.tmps) : ∀ {ps : List (Nat × Nat × Operand)} {l : List (Nat × Nat × Value)}, evp e ps = some l →
    l.length = ps.length ∧ ∀ (i : Nat) o n x, ps[i]? = some (o, n, x) → ∃ v, l[i]? = some (o, n, v) ∧ VR r v (a.eval x) := by
  intro ps
  induction ps with
  | nil => intro l h; cases h; exact ⟨rfl, fun i o n x h => by simp at h⟩
  | cons p ps ih =>
    intro l h
    obtain ⟨o, n, x⟩ := p
    simp only [evp] at h
    split at h
    · rename_i v hv
      split at h
      · rename_i l2 hl2; cases h
        obtain ⟨g1, g2⟩ := ih hl2
        refine ⟨by simp [g1], fun i o' n' x' q => ?_⟩
        cases i with
        | zero => simp at q; obtain ⟨rfl, rfl, rfl⟩ := q; exact ⟨v, rfl, ev_sound he hv⟩
        | succ i => simp at q; obtain ⟨u, q1, q2⟩ := g2 i o' n' x' q; exact ⟨u, by simpa using q1, q2⟩
      · cases h
    · cases h
theorem partsS_spec {P : Program} {fs : Array Field} : ∀ {ps : List (Nat × Operand)} {l : List (Nat × Nat × Operand)}, partsS P fs ps = some l →
    l.length = ps.length ∧ ∀ (i : Nat) k x, ps[i]? = some (k, x) → ∃ f n, fs[k]? = some f ∧ szOf P f.type = some n ∧ l[i]? = some (f.offset, n, x) := by
  intro ps
  induction ps with
  | nil => intro l h; cases h; exact ⟨rfl, fun i k x h => by simp at h⟩
  | cons p ps ih =>
    intro l h
    obtain ⟨k, x⟩ := p
    simp only [partsS] at h
    split at h
    · rename_i f hf
      split at h
      · rename_i n hn
        split at h
        · rename_i l2 hl2; cases h
          obtain ⟨g1, g2⟩ := ih hl2
          refine ⟨by simp [g1], fun i k' x' q => ?_⟩
          cases i with
          | zero => simp at q; obtain ⟨rfl, rfl⟩ := q; exact ⟨f, n, hf, hn, rfl⟩
          | succ i => simp at q; obtain ⟨f', n', q1, q2, q3⟩ := g2 i k' x' q; exact ⟨f', n', q1, q2, by simpa using q3⟩
        · cases h
      · cases h
    · cases h
theorem places_of {P : Program} : ∀ {fs : List Field}, fs.all (fun f => (szOf P f.type).isSome) = true → ∃ pl, fs.mapM (fun f => (P.info? f.type).map fun i => (f.offset, i.size)) = some pl ∧
    ∀ (k : Nat) f n, fs[k]? = some f → szOf P f.type = some n → pl[k]? = some (f.offset, n) := by
  intro fs
  induction fs with
  | nil => intro _; exact ⟨[], rfl, fun k f n h => by simp at h⟩
  | cons g fs ih =>
    intro h
    simp only [List.all_cons, Bool.and_eq_true] at h
    obtain ⟨pl, h1, h2⟩ := ih h.2
    obtain ⟨n, hn⟩ := Option.isSome_iff_exists.1 h.1
    obtain ⟨i, hi, rfl⟩ := info_of_szOf hn
    refine ⟨(g.offset, i.size) :: pl, by simp [List.mapM_cons, hi, h1], fun k f m q1 q2 => ?_⟩
    cases k with
    | zero => simp at q1; subst q1; rw [hn] at q2; cases q2; rfl
    | succ k => simp at q1; simpa using h2 k f m q1 q2
variable {P : Program} {base : Nat} {r : Rho} {h h2 : H} {w : World} {e : Env} {a : Act} {nm : Option Nat} {v : Value}
theorem zrep_length (z : List Value) (n : Nat) : (zrep z n).length = n * z.length := by
  induction n with
  | zero => simp [zrep]
  | succ n ih => simp only [zrep, List.length_append, ih]; rw [Nat.succ_mul]; omega
theorem zrep_get (z : List Value) : ∀ (n i : Nat), i < n * z.length → (zrep z n)[i]? = z[i % z.length]? := by
  intro n
  induction n with
  | zero => intro i h; simp at h
  | succ n ih =>
    intro i h
    rw [Nat.succ_mul] at h
    simp only [zrep, List.getElem?_append]
    split
    · rename_i hi; rw [Nat.mod_eq_of_lt hi]
    · rename_i hi
      rw [ih _ (by omega), Nat.mod_eq_sub_mod (a := i) (by omega)]
theorem zrep_plain {z : List Value} (hp : z.all plain1 = true) (n : Nat) : (zrep z n).all plain1 = true := by
  induction n with
  | zero => rfl
  | succ n ih => simp only [zrep, List.all_append, hp, ih, Bool.and_self]
theorem zrep_array (z : Array Value) (n : Nat) : ((Array.range (n * z.size)).map (z[· % z.size]!)).toList = zrep z.toList n := by
  refine List.ext_getElem? fun i => ?_
  rcases Nat.lt_or_ge i (n * z.size) with hi | hi
  · have hp : 0 < z.size := by rcases Nat.eq_zero_or_pos z.size with h0 | h0; · rw [h0] at hi; simp at hi
                               · exact h0
    have hm := Nat.mod_lt i hp
    rw [zrep_get _ _ _ (by simpa using hi)]
    simp [hi, hm]
  · rw [List.getElem?_eq_none (by simpa using hi), List.getElem?_eq_none (by rw [zrep_length]; simpa using hi)]
theorem zeroCells_list (z : Array Value) (n : Nat) : (Builtin.zeroCells z n).toList = zrep z.toList n := by
  unfold Builtin.zeroCells
  exact zrep_array z n
section ops
theorem s_buildS (R : Rel base r h w) (he : EnvR r e a.tmps) (hnm : ∀ n, nm = some n → n < h.next ∧ r n = none) {t : TypeId} {z : List Value} {fs : Array Field} {ps : Array (Nat × Operand)} {l : List (Nat × Nat × Operand)} {o : Oper} (ho : o.op = .build t ps) (hz : zeroL P t = some z)
    (ht : P.underlying t = some (.struct fs)) (hf : fs.toList.all (fun f => (szOf P f.type).isSome) = true) (hp : partsS P fs ps.toList = some l) (E : opE (.build z l) e h nm = some (v, h2)) :
    Stp base nm r h w v h2 ((execOp a.eval o).run P w) := by
  simp only [opE] at E
  split at E
  · rename_i vs hvs
    split at E
    · rename_i cs hcs; cases E
      obtain ⟨i, zv, q1, q2, q3, q4, q5⟩ := zeroL_spec hz
      obtain ⟨pl, p1, p2⟩ := places_of hf
      obtain ⟨s1, s2⟩ := partsS_spec hp
      obtain ⟨t1, t2⟩ := evp_sound he hvs
      obtain ⟨cc, g1, g2⟩ := fill_sound (r := r) (fun k => pl[k]?) vs (ps.toList.map fun p => (p.1, a.eval p.2)) (by simp [t1, s1]) (fun j o n u k u' q1 q2 => by
        rw [List.getElem?_map] at q2
        cases hpj : ps.toList[j]? with
        | none => rw [hpj] at q2; cases q2
        | some p =>
          rw [hpj] at q2; cases q2
          obtain ⟨f, m, f1, f2, f3⟩ := s2 j p.1 p.2 hpj
          obtain ⟨y, y1, y2⟩ := t2 j _ _ _ f3
          rw [q1] at y1; cases y1
          exact ⟨p2 _ f _ (by simpa using f1) f2, y2⟩) z zv.cells cs (by rw [q3]; exact VR.of_plainL q4) hcs
      refine Stp.pure' R (v' := .agg cc) (by have := VR.ofAgg g2; simpa using this) ?_
      have hb : P.built t (ps.map fun (i, x) => (i, a.eval x)).toList = some cc := by
        unfold Program.built
        simp only [q1, ht, q2, p1]
        have : (ps.map fun (i, x) => (i, a.eval x)).toList = ps.toList.map fun p => (p.1, a.eval p.2) := by simp
        rw [this]; simpa using g1
      simp only [execOp, ho, Sem.run_bind, run_build w t _ cc hb, Result.andThen_ok]; rfl
    · cases E
  · cases E
theorem s_buildA (R : Rel base r h w) (he : EnvR r e a.tmps) (hnm : ∀ n, nm = some n → n < h.next ∧ r n = none) {t el : TypeId} {n s : Nat} {z : List Value} {ps : Array (Nat × Operand)} {o : Oper} (ho : o.op = .build t ps) (hz : zeroL P t = some z)
    (ht : P.underlying t = some (.array n el)) (hs : szOf P el = some s) (E : opE (.build z (ps.toList.map fun p => (p.1 * s, s, p.2))) e h nm = some (v, h2)) :
    Stp base nm r h w v h2 ((execOp a.eval o).run P w) := by
  simp only [opE] at E
  split at E
  · rename_i vs hvs
    split at E
    · rename_i cs hcs; cases E
      obtain ⟨i, zv, q1, q2, q3, q4, q5⟩ := zeroL_spec hz
      obtain ⟨ie, hie, rfl⟩ := info_of_szOf hs
      obtain ⟨t1, t2⟩ := evp_sound he hvs
      obtain ⟨cc, g1, g2⟩ := fill_sound (r := r) (fun k => some (k * ie.size, ie.size)) vs (ps.toList.map fun p => (p.1, a.eval p.2)) (by simp [t1]) (fun j o n u k u' q1 q2 => by
        rw [List.getElem?_map] at q2
        cases hpj : ps.toList[j]? with
        | none => rw [hpj] at q2; cases q2
        | some p =>
          rw [hpj] at q2; cases q2
          obtain ⟨y, y1, y2⟩ := t2 j (p.1 * ie.size) ie.size p.2 (by rw [List.getElem?_map, hpj]; rfl)
          rw [q1] at y1; cases y1
          exact ⟨rfl, y2⟩) z zv.cells cs (by rw [q3]; exact VR.of_plainL q4) hcs
      refine Stp.pure' R (v' := .agg cc) (by have := VR.ofAgg g2; simpa using this) ?_
      have hb : P.built t (ps.map fun (i, x) => (i, a.eval x)).toList = some cc := by
        unfold Program.built
        simp only [q1, ht, q2, hie]
        have : (ps.map fun (i, x) => (i, a.eval x)).toList = ps.toList.map fun p => (p.1, a.eval p.2) := by simp
        rw [this]; exact g1
      simp only [execOp, ho, Sem.run_bind, run_build w t _ cc hb, Result.andThen_ok]; rfl
    · cases E
  · cases E
theorem s_bsl (R : Rel base r h w) (he : EnvR r e a.tmps) (hnm : ∀ n, nm = some n → n < h.next ∧ r n = none) {t el : TypeId} {n : Nat} {z : List Value} {ps : Array (Nat × Operand)} {o : Oper} (ho : o.op = .buildSlice t n ps) (hz : zeroL P el = some z)
    (ht : P.underlying t = some (.slice el)) (hle : n * z.length ≤ 16777216) (E : opE (.bsl z.length n (zrep z n) (ps.toList.map fun p => (p.1 * z.length, z.length, p.2))) e h nm = some (v, h2)) :
    Stp base nm r h w v h2 ((execOp a.eval o).run P w) := by
  simp only [opE] at E
  split at E
  · rename_i vs hvs
    split at E
    · rename_i cs hcs
      split at E
      · rename_i h1; cases E
        obtain ⟨i, zv, q1, q2, q3, q4, q5⟩ := zeroL_spec hz
        have qs : zv.cells.size = i.size := by rw [← q5, ← q3]; simp
        obtain ⟨t1, t2⟩ := evp_sound he hvs
        rw [q5] at hvs t2 hle
        obtain ⟨cc, g1, g2⟩ := fill_sound (r := r) (fun k => some (k * i.size, i.size)) vs (ps.toList.map fun p => (p.1, a.eval p.2)) (by simp [t1]) (fun j o n u k u' q1 q2 => by
          rw [List.getElem?_map] at q2
          cases hpj : ps.toList[j]? with
          | none => rw [hpj] at q2; cases q2
          | some p =>
            rw [hpj] at q2; cases q2
            obtain ⟨y, y1, y2⟩ := t2 j (p.1 * i.size) i.size p.2 (by rw [List.getElem?_map, hpj]; rfl)
            rw [q1] at y1; cases y1
            exact ⟨rfl, y2⟩) (zrep z n) ((Array.range (n * i.size)).map ((if n * i.size = 0 then #[] else zv.cells)[· % (if n * i.size = 0 then (#[] : Array Value) else zv.cells).size]!)) cs (by
          have : ((Array.range (n * i.size)).map ((if n * i.size = 0 then #[] else zv.cells)[· % (if n * i.size = 0 then (#[] : Array Value) else zv.cells).size]!)).toList = zrep z n := by
            by_cases h0 : n * i.size = 0
            · rw [h0]; simp
              exact List.eq_nil_of_length_eq_zero (by rw [zrep_length, q5]; exact h0)
            · simp only [if_neg h0]
              rw [← qs, zrep_array, q3]
          rw [this]; exact VR.of_plainL (zrep_plain q4 n)) hcs
        obtain ⟨r2, k1, k2, k3, k4⟩ := R.mkb (cs := cs) (c := cc) (t := el) (es := z.length) (lim := cs.length) hnm (Nat.le_refl _) (by rw [g2.1]; simp) (fun j u hu => by
          obtain ⟨y1, y2, y3, y4⟩ := g2.cells_of h1 [] j u hu
          exact ⟨y1, y2, by simpa using y3, y4⟩)
        refine ⟨r2, _, .slice (some ⟨w.heap.size, 0, none⟩) n n, .inl ?_, .sl (.inl (AR.at k1 rfl)) (Nat.le_refl _) (by omega) (fun _ => by omega) (fun q => by omega), k2, k3, k4⟩
        have hf : Instr.fill (fun k => some (k * i.size, i.size)) ((Array.range (n * i.size)).map ((if n * i.size = 0 then #[] else zv.cells)[· % (if n * i.size = 0 then (#[] : Array Value) else zv.cells).size]!)) (ps.map fun (i, x) => (i, a.eval x)).toList = some cc := by
          have : (ps.map fun (i, x) => (i, a.eval x)).toList = ps.toList.map fun p => (p.1, a.eval p.2) := by simp
          rw [this]; exact g1
        by_cases h0 : n * i.size = 0
        · simp only [if_pos h0] at hf
          simp [execOp, ho, Instr.buildSlice, run_underlying ht, run_sizeOf' q1, h0] at hf ⊢
          simp [hf, newRow]
        · simp only [if_neg h0] at hf
          have hg : ¬ (n * i.size > 2 ^ 24) := by omega
          simp only [execOp, ho, Instr.buildSlice, Sem.run_bind, run_underlying ht, run_sizeOf' q1, Result.andThen_ok, if_neg hg, if_neg h0, run_zero' q1 q2, Sem.run_pure, Functor.map, Sem.run_ite]
          rw [hf]
          simp [newRow]
      · cases E
    · cases E
  · cases E
end ops
end Go.Proofs.Ytkfjlbdedjoojaa.Am
namespace Go.Proofs.Ytkfjlbdedjoojaa.Am
open Go
set_option linter.unusedVariables false
set_option linter.unusedSimpArgs false
variable {P : Program} {base : Nat} {r : Rho} {h h2 : H} {w : World} {e : Env} {a : Act} {nm : Option Nat} {v : Value}
theorem VR.agg_inv {r : Rho} {x : Array Value} {v' : Value} (h : VR r (.agg x) v') : ∃ x', v' = .agg x' ∧ VL r x.toList x'.toList := by
  cases h with | agg hx h1 => exact ⟨_, rfl, by simpa using hx, fun i v v' a b => h1 i v v' (by simpa using a) (by simpa using b)⟩
theorem eqL_append {x y : Array Value} : ∀ {l m : List (Nat × Nat)} {b : Bool}, eqL x y (l ++ m) = some b → ∃ c d, eqL x y l = some c ∧ eqL x y m = some d ∧ b = (c && d) := by
  intro l
  induction l with
  | nil => intro m b h; exact ⟨true, b, rfl, h, by simp⟩
  | cons p l ih =>
    intro m b h
    obtain ⟨o, k⟩ := p
    simp only [List.cons_append, eqL] at h ⊢
    split at h
    · rename_i u hu
      split at h
      · rename_i u' hu'
        split at h
        · rename_i c hc
          split at h
          · rename_i d hd; cases h
            obtain ⟨c', d', g1, g2, g3⟩ := ih hd
            exact ⟨c && c', d', by simp only [hu, hu', hc, g1], g2, by rw [g3, Bool.and_assoc]⟩
          · cases h
        · cases h
      · cases h
    · cases h
def eqElems (d : Nat) (el : TypeId) (s : Nat) (xs ys : Array Value) : Nat → Nat → Sem Bool
  | 0, _ => pure true
  | n + 1, i => do
    let a ← part el xs (i * s)
    let b ← part el ys (i * s)
    let r ← Op.equalIn d el a b
    if (!r) = true then pure false else eqElems d el s xs ys n (i + 1)
theorem run_equalIn_array (w : World) (d : Nat) (t el : TypeId) (n : Nat) (i : TypeInfo) (xs ys : Array Value) (ht : P.underlying t = some (.array n el)) (hi : P.info? el = some i) :
    (Op.equalIn (d + 1) t (.agg xs) (.agg ys)).run P w = (eqElems d el i.size xs ys n 0).run P w := by
  simp only [Op.equalIn, Sem.run_bind, run_underlying ht, Result.andThen_ok, run_sizeOf' hi]
  rw [Std.Legacy.Range.forIn_eq_forIn_range']
  simp only [Std.Legacy.Range.size, Nat.sub_zero, Nat.add_sub_cancel, Nat.div_one]
  clear ht
  generalize 0 = k
  induction n generalizing w k with
  | zero => simp [eqElems]
  | succ n ih =>
    simp only [List.range'_succ, List.forIn_cons, eqElems, Sem.run_bind, Sem.run_ite]
    generalize (part el xs (k * i.size)).run P w = r1
    cases r1 with
    | ok a w1 =>
      simp only [Result.andThen_ok]
      generalize (part el ys (k * i.size)).run P w1 = r2
      cases r2 with
      | ok b w2 =>
        simp only [Result.andThen_ok]
        generalize (Op.equalIn d el a b).run P w2 = r3
        cases r3 with
        | ok r w3 =>
          cases r
          · simp only [Result.andThen_ok, Bool.not_false, if_true, Sem.run_pure]
          · simp only [Result.andThen_ok, Bool.not_true, Bool.false_eq_true, if_false, Sem.run_pure]
            exact ih w3 (k + 1)
        | halt x w3 => simp [Result.andThen]
      | halt x w2 => simp [Result.andThen]
    | halt x w1 => simp [Result.andThen]
theorem run_part_agg {t : TypeId} {i : TypeInfo} (hA : isAggB P t = true) (hi : P.info? t = some i) (xs : Array Value) (o : Nat) (w : World) : (part t xs o).run P w = .ok (.agg (xs.extract o (o + i.size))) w := by
  unfold isAggB at hA
  cases hd : P.underlying t with
  | none => rw [hd] at hA; cases hA
  | some d => rw [hd] at hA; cases d <;> first | (simp at hA; done) | simp [part, isAgg, run_underlying hd, run_sizeOf' hi]
theorem run_part_one {t : TypeId} {d : TypeDesc} (hd : P.underlying t = some d) (hA : isAggB P t = false) {xs : Array Value} {o : Nat} {v : Value} (hv : xs[o]? = some v) (w : World) : (part t xs o).run P w = .ok v w := by
  unfold isAggB at hA; rw [hd] at hA
  cases d <;> first | (simp at hA; done) | simp [part, isAgg, run_underlying hd, hv]
def EqT (P : Program) (d : Nat) : Prop := ∀ (t : TypeId) (off : Nat) (l : List (Nat × Nat)), eqOffs P d t off = some l → ∀ (x y : Array Value) (b : Bool), eqL x y l = some b → ∀ D, d ≤ D → ∃ sz, szOf P t = some sz ∧
  ∀ (xs ys : Array Value) (o : Nat), (∀ i, i < sz → xs[o + i]? = x[off + i]?) → (∀ i, i < sz → ys[o + i]? = y[off + i]?) →
    ∃ p q, (∀ w, (part t xs o).run P w = .ok p w) ∧ (∀ w, (part t ys o).run P w = .ok q w) ∧ ∀ w, (Op.equalIn D t p q).run P w = .ok b w
def EqB (P : Program) (d : Nat) : Prop := ∀ (t : TypeId) (off : Nat) (l : List (Nat × Nat)), isAggB P t = true → eqOffs P d t off = some l → ∀ (x y : Array Value) (b : Bool), eqL x y l = some b → ∀ D, d ≤ D → ∃ sz, szOf P t = some sz ∧
  ∀ (xs ys : Array Value), (∀ i, i < sz → xs[i]? = x[off + i]?) → (∀ i, i < sz → ys[i]? = y[off + i]?) → ∀ w, (Op.equalIn D t (.agg xs) (.agg ys)).run P w = .ok b w
theorem eq1_run {t : TypeId} {k : Nat} {p q : Value} {b : Bool} (D : Nat) (ht : (k = 0 ∧ P.underlying t = some .bool) ∨ (k = 1 ∧ ∃ j, P.underlying t = some (.int j)) ∨ (k = 2 ∧ P.underlying t = some .string)) (E : eq1 k p q = some b) (w : World) :
    (Op.equalIn (D + 1) t p q).run P w = .ok b w := by
  unfold eq1 at E
  split at E
  · cases E
    rcases ht with ⟨_, ht⟩ | ⟨hk, _⟩ | ⟨hk, _⟩
    · exact run_equalIn_bool w D t _ _ ht
    · cases hk
    · cases hk
  · split at E
    · rename_i hk'; subst hk'; cases E
      rcases ht with ⟨hk, _⟩ | ⟨_, j, ht⟩ | ⟨hk, _⟩
      · cases hk
      · exact run_equalIn_int w D t _ j _ _ ht
      · cases hk
    · cases E
  · cases E
    rcases ht with ⟨hk, _⟩ | ⟨hk, _⟩ | ⟨_, ht⟩
    · cases hk
    · cases hk
    · exact run_equalIn_string w D t _ _ ht
  · cases E
theorem eqB_succ {d : Nat} (ih : EqT P d) : EqB P (d + 1) := by
  intro t off l hA he x y b hb D hD
  obtain ⟨D, rfl⟩ : ∃ m, D = m + 1 := ⟨D - 1, by omega⟩
  unfold isAggB at hA
  simp only [eqOffs] at he
  split at he
  · rename_i ht; rw [ht] at hA; simp at hA
  · rename_i ht; rw [ht] at hA; simp at hA
  · rename_i ht; rw [ht] at hA; simp at hA
  ·
    rename_i fs ht
    split at he
    · cases he
    · rename_i hst
      split at he
      · rename_i sz hsz
        refine ⟨sz, hsz, fun xs ys hx hy w => ?_⟩
        have htf : P.underlying t = some (.struct (P.fieldsOf t)) := by simp [Program.fieldsOf, ht]
        have hff : P.fieldsOf t = fs := by simp [Program.fieldsOf, ht]
        rw [run_equalIn_struct w D t xs ys htf (by simpa using hst), hff]
        generalize fs.toList = gs at he
        clear htf hff
        induction gs generalizing l b w with
        | nil => simp only [offsF] at he; cases he; simp only [eqL] at hb; cases hb; simp [Op.eqFields]
        | cons g gs ihg =>
          simp only [offsF] at he
          split at he
          · cases he
          · rename_i hg
            split at he
            · rename_i n hn
              split at he
              · rename_i hle
                split at he
                · rename_i l1 hl1
                  split at he
                  · rename_i l2 hl2; cases he
                    obtain ⟨c, c2, e1, e2, rfl⟩ := eqL_append hb
                    obtain ⟨n', hn', k⟩ := ih g.type _ l1 hl1 x y c e1 D (by omega)
                    rw [hn] at hn'; cases hn'
                    obtain ⟨p, q, k1, k2, k3⟩ := k xs ys g.offset (fun i hi => by rw [hx _ (by omega), Nat.add_assoc]) (fun i hi => by rw [hy _ (by omega), Nat.add_assoc])
                    have := ihg l2 c2 e2 w hl2
                    simp only [Op.eqFields, ne_eq, hg, not_false_eq_true, if_true, Sem.run_bind, k1, k2, k3, Result.andThen_ok, Sem.run_ite]
                    cases c
                    · simp
                    · simpa using this
                  · cases he
                · cases he
              · cases he
            · cases he
      · cases he
  ·
    rename_i n el ht
    split at he
    · rename_i sz s hsz hs
      split at he
      · rename_i hle
        obtain ⟨i, hi, rfl⟩ := info_of_szOf hs
        refine ⟨sz, hsz, fun xs ys hx hy w => ?_⟩
        rw [run_equalIn_array w D t el n i xs ys ht hi]
        have key : ∀ (m k : Nat) (l : List (Nat × Nat)) (b : Bool) (w : World), k + m = n → offsA (eqOffs P d) off el i.size m k = some l → eqL x y l = some b → (eqElems D el i.size xs ys m k).run P w = .ok b w := by
          intro m
          induction m with
          | zero => intro k l b w _ he hb; simp only [offsA] at he; cases he; simp only [eqL] at hb; cases hb; simp [eqElems]
          | succ m ihm =>
            intro k l b w hkm he hb
            simp only [offsA] at he
            split at he
            · rename_i l1 hl1
              split at he
              · rename_i l2 hl2; cases he
                obtain ⟨c, c2, e1, e2, rfl⟩ := eqL_append hb
                obtain ⟨n', hn', q⟩ := ih el _ l1 hl1 x y c e1 D (by omega)
                rw [hs] at hn'; cases hn'
                have hb1 : (k + 1) * i.size ≤ n * i.size := Nat.mul_le_mul_right _ (by omega)
                rw [Nat.succ_mul] at hb1
                obtain ⟨p, p', k1, k2, k3⟩ := q xs ys (k * i.size) (fun j hj => by rw [hx _ (by omega), Nat.add_assoc]) (fun j hj => by rw [hy _ (by omega), Nat.add_assoc])
                have := ihm (k + 1) l2 c2 w (by omega) hl2 e2
                simp only [eqElems, Sem.run_bind, k1, k2, k3, Result.andThen_ok, Sem.run_ite]
                cases c
                · simp
                · simpa using this
              · cases he
            · cases he
        exact key n 0 l b w (by omega) he hb
      · cases he
    · cases he
  · cases he
theorem eqT_succ {d : Nat} (ih : EqT P d) : EqT P (d + 1) := by
  intro t off l he x y b hb D hD
  by_cases hA : isAggB P t = true
  · obtain ⟨sz, hsz, k⟩ := eqB_succ ih t off l hA he x y b hb D hD
    obtain ⟨i, hi, rfl⟩ := info_of_szOf hsz
    refine ⟨i.size, hsz, fun xs ys o hx hy => ⟨_, _, run_part_agg hA hi xs o, run_part_agg hA hi ys o, k _ _ (fun j hj => ?_) (fun j hj => ?_)⟩⟩
    · rw [← hx j hj, Array.getElem?_extract]; split
      · rfl
      · rename_i q; rw [Array.getElem?_eq_none (by omega)]
    · rw [← hy j hj, Array.getElem?_extract]; split
      · rfl
      · rename_i q; rw [Array.getElem?_eq_none (by omega)]
  · have hA' : isAggB P t = false := by simpa using hA
    obtain ⟨D, rfl⟩ : ∃ m, D = m + 1 := ⟨D - 1, by omega⟩
    simp only [eqOffs] at he
    have fin : ∀ (k : Nat) (dd : TypeDesc), P.underlying t = some dd → ((k = 0 ∧ P.underlying t = some .bool) ∨ (k = 1 ∧ ∃ j, P.underlying t = some (.int j)) ∨ (k = 2 ∧ P.underlying t = some .string)) → szOf P t = some 1 → l = [(off, k)] →
        ∃ sz, szOf P t = some sz ∧ ∀ (xs ys : Array Value) (o : Nat), (∀ i, i < sz → xs[o + i]? = x[off + i]?) → (∀ i, i < sz → ys[o + i]? = y[off + i]?) →
          ∃ p q, (∀ w, (part t xs o).run P w = .ok p w) ∧ (∀ w, (part t ys o).run P w = .ok q w) ∧ ∀ w, (Op.equalIn (D + 1) t p q).run P w = .ok b w := by
      intro k dd hd hk hs hl
      subst hl
      simp only [eqL] at hb
      split at hb
      · rename_i p hp
        split at hb
        · rename_i q hq
          split at hb
          · rename_i c hc; cases hb
            refine ⟨1, hs, fun xs ys o hx hy => ⟨p, q, run_part_one hd hA' (by have := hx 0 (by omega); simpa [hp] using this), run_part_one hd hA' (by have := hy 0 (by omega); simpa [hq] using this), fun w => ?_⟩⟩
            rw [Bool.and_true]; exact eq1_run D hk hc w
          · cases hb
        · cases hb
      · cases hb
    split at he
    · rename_i ht
      split at he
      · rename_i hs; cases he; exact fin 0 _ ht (.inl ⟨rfl, ht⟩) hs rfl
      · cases he
    · rename_i ht
      split at he
      · rename_i hs; cases he; exact fin 1 _ ht (.inr (.inl ⟨rfl, _, ht⟩)) hs rfl
      · cases he
    · rename_i ht
      split at he
      · rename_i hs; cases he; exact fin 2 _ ht (.inr (.inr ⟨rfl, ht⟩)) hs rfl
      · cases he
    · rename_i ht; unfold isAggB at hA; rw [ht] at hA; simp at hA
    · rename_i ht; unfold isAggB at hA; rw [ht] at hA; simp at hA
    · cases he
theorem eqT (P : Program) : ∀ d, EqT P d
  | 0 => fun t off l he => by simp [eqOffs] at he
  | d + 1 => eqT_succ (eqT P d)
theorem eq1_rel {k : Nat} {p q p' q' : Value} {b : Bool} (hp : VR r p p') (hq : VR r q q') (E : eq1 k p q = some b) : eq1 k p' q' = some b := by
  unfold eq1 at E
  split at E
  · rw [VR.bool_inv hp, VR.bool_inv hq]; exact E
  · rw [VR.int_inv hp, VR.int_inv hq]; exact E
  · rw [VR.string_inv hp, VR.string_inv hq]; exact E
  · cases E
theorem eqL_rel {x y x' y' : Array Value} (hx : VL r x.toList x'.toList) (hy : VL r y.toList y'.toList) : ∀ {l : List (Nat × Nat)} {b : Bool}, eqL x y l = some b → eqL x' y' l = some b := by
  intro l
  induction l with
  | nil => intro b h; exact h
  | cons p l ih =>
    intro b h
    obtain ⟨o, k⟩ := p
    simp only [eqL] at h ⊢
    split at h
    · rename_i u hu
      split at h
      · rename_i z hz
        split at h
        · rename_i c hc
          split at h
          · rename_i d hd; cases h
            obtain ⟨u', q1, q2⟩ := hx.get (i := o) (v := u) (by simpa using hu)
            obtain ⟨z', q3, q4⟩ := hy.get (i := o) (v := z) (by simpa using hz)
            have e1 : x'[o]? = some u' := by simpa using q1
            have e2 : y'[o]? = some z' := by simpa using q3
            simp only [e1, e2, eq1_rel q2 q4 hc, ih hd]
          · cases h
        · cases h
      · cases h
    · cases h
end Go.Proofs.Ytkfjlbdedjoojaa.Am
namespace Go.Proofs.Ytkfjlbdedjoojaa.Am
open Go
set_option linter.unusedVariables false
set_option linter.unusedSimpArgs false
variable {P : Program} {base : Nat} {r : Rho} {h h2 : H} {w : World} {e : Env} {a : Act} {nm : Option Nat} {v : Value}
theorem VR.slice_inv {r : Rho} {p : Option Addr} {n c : Nat} {v' : Value} (h : VR r (.slice p n c) v') : ∃ p' c', v' = .slice p' n c' ∧ n ≤ c' ∧ c / 2 ≤ c' ∧ (p = none → p' = none ∧ n = 0 ∧ c = 0 ∧ c' = 0) ∧
    (∀ q, p = some q → ∃ q', p' = some q' ∧ (AR r q q' ∨ c' = 0) ∧ (c % 2 = 1 → c' = c / 2) ∧ (c % 2 = 0 → ∃ L, r q.block = some L ∧ q.off + c' * L.es ≤ L.lim)) := by
  cases h with
  | sl0 => exact ⟨none, 0, rfl, Nat.le_refl _, by simp, fun _ => ⟨rfl, rfl, rfl, rfl⟩, fun q hq => by cases hq⟩
  | sl h1 h2 h3 h4 h5 => exact ⟨_, _, rfl, h2, h3, fun hq => (by cases hq), fun q hq => by cases hq; exact ⟨_, rfl, h1, h4, h5⟩⟩
theorem VR.ptr_inv {r : Rho} {p : Addr} {v' : Value} (h : VR r (.pointer (some p)) v') : ∃ L, p.spot = none ∧ r p.block = some L ∧ v' = .pointer (some ⟨L.b, L.o + p.off, none⟩) := by
  cases h with
  | ptr q => obtain ⟨h1, L, h2, rfl⟩ := q; exact ⟨L, h1, h2, rfl⟩
theorem VR.extract {r : Rho} {x y : Array Value} (h : VL r x.toList y.toList) (i j : Nat) : VR r (.agg (x.extract i j)) (.agg (y.extract i j)) := by
  have hs : x.size = y.size := by simpa using h.1
  refine .agg (by simp [hs]) fun k v v' a b => ?_
  rw [Array.getElem?_extract] at a b
  rw [hs] at a
  split at a
  · rename_i q; rw [if_pos q] at b; exact h.2 _ v v' (by simpa using a) (by simpa using b)
  · cases a
theorem add_none (b o n : Nat) : (⟨b, o, none⟩ : Addr).add n = ⟨b, o + n, none⟩ := by
  unfold Addr.add; split
  · rename_i h0; subst h0; rfl
  · rfl
section ops
theorem s_eqq1 (R : Rel base r h w) (he : EnvR r e a.tmps) (hnm : ∀ n, nm = some n → n < h.next ∧ r n = none) {neg : Bool} {k : Nat} {op : BinOp} {t u : TypeId} {x y : Operand} {o : Oper} (ho : o.op = .binOp op t x y u) (hop : (op = .eql ∧ neg = false) ∨ (op = .neq ∧ neg = true)) (ht : k = 0 ∧ P.underlying t = some .bool)
    (E : opE (.eqq neg (.one k) x y) e h nm = some (v, h2)) : Stp base nm r h w v h2 ((execOp a.eval o).run P w) := by
  simp only [opE] at E
  split at E
  · rename_i p hp
    split at E
    · rename_i q hq
      split at E
      · rename_i b hb; cases E
        obtain ⟨rfl, ht⟩ := ht
        have j1 := ev_sound he hp
        have j2 := ev_sound he hq
        obtain ⟨x1, x2, rfl, rfl, rfl⟩ : ∃ x1 x2, p = .bool x1 ∧ q = .bool x2 ∧ b = (x1 == x2) := by
          simp only [eqV] at hb
          cases p <;> first | (simp [eq1] at hb; done) | skip
          cases q <;> first | (simp [eq1] at hb; done) | skip
          simp only [eq1] at hb; cases hb; exact ⟨_, _, rfl, rfl, rfl⟩
        have k1 := VR.bool_inv j1
        have k2 := VR.bool_inv j2
        refine Stp.pure' R (.bool _) ?_
        rcases hop with ⟨rfl, rfl⟩ | ⟨rfl, rfl⟩
        · simp [execOp, ho, k1, k2, eqGuard_at_bool, run_eql_bool _ t _ _ ht]
        · simp [execOp, ho, k1, k2, eqGuard_at_bool, run_neq_bool _ t _ _ ht]
      · cases E
    · cases E
  · cases E
theorem s_eqqP (R : Rel base r h w) (he : EnvR r e a.tmps) (hnm : ∀ n, nm = some n → n < h.next ∧ r n = none) {neg : Bool} {op : BinOp} {t u el : TypeId} {x y : Operand} {o : Oper} (ho : o.op = .binOp op t x y u) (hop : (op = .eql ∧ neg = false) ∨ (op = .neq ∧ neg = true))
    (ht : P.underlying t = some (.pointer el)) (E : opE (.eqq neg .nilP x y) e h nm = some (v, h2)) : Stp base nm r h w v h2 ((execOp a.eval o).run P w) := by
  simp only [opE] at E
  split at E
  · rename_i p hp
    split at E
    · rename_i q hq
      split at E
      · rename_i b hb; cases E
        have k1 := ev_sound he hp
        have k2 := ev_sound he hq
        refine Stp.pure' R (.bool _) ?_
        obtain ⟨p1, rfl, rfl, rfl⟩ : ∃ p1, p = .pointer p1 ∧ q = .pointer none ∧ b = p1.isNone := by
          simp only [eqV] at hb; unfold eqNP at hb
          split at hb
          · cases hb; exact ⟨_, rfl, rfl, rfl⟩
          · cases hb
        have hpt : P.underlying t = some (.pointer (P.pointee t)) := by simp [Program.pointee, ht]
        obtain ⟨p2, e1, e2⟩ : ∃ p2, a.eval x = .pointer p2 ∧ p2.isNone = p1.isNone := by
          generalize a.eval x = z at k1; cases k1 <;> exact ⟨_, rfl, rfl⟩
        have e3 : a.eval y = .pointer none := by generalize a.eval y = z at k2; cases k2; rfl
        rcases hop with ⟨rfl, rfl⟩ | ⟨rfl, rfl⟩
        · simp [execOp, ho, e1, e3, eqGuard_at_pointer, run_eql_pointer_nil w t p2 hpt, e2]
        · simp [execOp, ho, e1, e3, eqGuard_at_pointer, run_neq_pointer_nil w t p2 hpt, e2]
      · cases E
    · cases E
  · cases E
theorem s_eqqV (R : Rel base r h w) (he : EnvR r e a.tmps) (hnm : ∀ n, nm = some n → n < h.next ∧ r n = none) {neg : Bool} {op : BinOp} {t u el : TypeId} {x y : Operand} {o : Oper} (ho : o.op = .binOp op t x y u) (hop : (op = .eql ∧ neg = false) ∨ (op = .neq ∧ neg = true))
    (ht : P.underlying t = some (.slice el)) (E : opE (.eqq neg .nilV x y) e h nm = some (v, h2)) : Stp base nm r h w v h2 ((execOp a.eval o).run P w) := by
  simp only [opE] at E
  split at E
  · rename_i p hp
    split at E
    · rename_i q hq
      split at E
      · rename_i b hb; cases E
        have k1 := ev_sound he hp
        have k2 := ev_sound he hq
        refine Stp.pure' R (.bool _) ?_
        obtain ⟨p1, n1, c1, n2, c2, rfl, rfl, rfl⟩ : ∃ p1 n1 c1 n2 c2, p = .slice p1 n1 c1 ∧ q = .slice none n2 c2 ∧ b = p1.isNone := by
          simp only [eqV] at hb; unfold eqNV at hb
          split at hb
          · cases hb; exact ⟨_, _, _, _, _, rfl, rfl, rfl⟩
          · cases hb
        obtain ⟨p2, c3, e1, e2⟩ : ∃ p2 c3, a.eval x = .slice p2 n1 c3 ∧ p2.isNone = p1.isNone := by
          generalize a.eval x = z at k1; cases k1 <;> exact ⟨_, _, rfl, rfl⟩
        obtain ⟨c4, e3⟩ : ∃ c4, a.eval y = .slice none n2 c4 := by generalize a.eval y = z at k2; cases k2; exact ⟨_, rfl⟩
        have hq := fun (w : World) => Go.Lib.run_equalIn_slice_nil w 9999 t el p2 n1 c3 n2 c4 ht
        rcases hop with ⟨rfl, rfl⟩ | ⟨rfl, rfl⟩
        · simp [execOp, ho, e1, e3, eqGuard_at_slice, Go.Lib.run_eql_slice_nil w t el p2 n1 c3 n2 c4 ht, e2]
        · have e5 : (binOp .neq t (.slice p2 n1 c3) (.slice none n2 c4)).run P w = .ok (.bool (!p2.isNone)) w := by
            simp only [binOp]; simp [Op.equal, Op.maxDepth, hq]
          simp [execOp, ho, e1, e3, eqGuard_at_slice, e5, e2]
      · cases E
    · cases E
  · cases E
theorem s_eqqA (R : Rel base r h w) (he : EnvR r e a.tmps) (hnm : ∀ n, nm = some n → n < h.next ∧ r n = none) {neg : Bool} {l : List (Nat × Nat)} {op : BinOp} {t u : TypeId} {x y : Operand} {o : Oper} (ho : o.op = .binOp op t x y u) (hop : (op = .eql ∧ neg = false) ∨ (op = .neq ∧ neg = true))
    (hA : isAggB P t = true) (hg : P.eqGuardType P.depth t = false) (hl : eqOffs P 20 t 0 = some l)
    (E : opE (.eqq neg (.agg l) x y) e h nm = some (v, h2)) : Stp base nm r h w v h2 ((execOp a.eval o).run P w) := by
  simp only [opE] at E
  split at E
  · rename_i p hp
    split at E
    · rename_i q hq
      split at E
      · rename_i b hb; cases E
        have k1 := ev_sound he hp
        have k2 := ev_sound he hq
        obtain ⟨X, Y, rfl, rfl⟩ : ∃ X Y, p = .agg X ∧ q = .agg Y := by
          simp only [eqV] at hb
          cases p <;> first | (simp [eqG] at hb; done) | skip
          cases q <;> first | (simp [eqG] at hb; done) | skip
          exact ⟨_, _, rfl, rfl⟩
        simp only [eqV, eqG] at hb
        obtain ⟨X', e1, j1⟩ := k1.agg_inv
        obtain ⟨Y', e2, j2⟩ := k2.agg_inv
        have hb' := eqL_rel j1 j2 hb
        obtain ⟨sz, hsz, kk⟩ := eqB_succ (eqT P 19) t 0 l hA hl X' Y' b hb' 10000 (by omega)
        have run := kk X' Y' (fun i _ => by simp) (fun i _ => by simp)
        refine Stp.pure' R (.bool _) ?_
        rcases hop with ⟨rfl, rfl⟩ | ⟨rfl, rfl⟩
        · simp [execOp, ho, e1, e2, run_eqGuard_agg w .eql t x y X' Y' hg, run_eql_struct, run]
        · simp [execOp, ho, e1, e2, run_eqGuard_agg w .neq t x y X' Y' hg, run_neq_struct, run]
      · cases E
    · cases E
  · cases E
theorem s_lenV (R : Rel base r h w) (he : EnvR r e a.tmps) (hnm : ∀ n, nm = some n → n < h.next ∧ r n = none) {t el : TypeId} {x : Operand} {c : Call} {o : Oper} (ho : o.op = .call c) (hc : c.callee = .builtin .len) (hx : c.args.toList = [x]) (hts : c.argTypes.toList = [t]) (ht : P.underlying t = some (.slice el))
    (E : opE (.lenV x) e h nm = some (v, h2)) : Stp base nm r h w v h2 ((execOp a.eval o).run P w) := by
  simp only [opE] at E
  have hx : c.args = #[x] := by rw [← hx]
  have hts : c.argTypes = #[t] := by rw [← hts]
  split at E
  · rename_i p n cc hp; cases E
    obtain ⟨p', c', k, _⟩ := (ev_sound he hp).slice_inv
    refine Stp.pure' R (.int ..) ?_
    simp [execOp, ho, hc, hx, hts, resolve, invoke, builtin, Builtin.len_, run_underlying ht, k, goInt]
  · cases E
theorem s_lenS (R : Rel base r h w) (he : EnvR r e a.tmps) (hnm : ∀ n, nm = some n → n < h.next ∧ r n = none) {t : TypeId} {x : Operand} {c : Call} {o : Oper} (ho : o.op = .call c) (hc : c.callee = .builtin .len) (hx : c.args.toList = [x]) (hts : c.argTypes.toList = [t]) (ht : P.underlying t = some .string)
    (E : opE (.lenS x) e h nm = some (v, h2)) : Stp base nm r h w v h2 ((execOp a.eval o).run P w) := by
  simp only [opE] at E
  have hx : c.args = #[x] := by rw [← hx]
  have hts : c.argTypes = #[t] := by rw [← hts]
  split at E
  · rename_i s hp; cases E
    have k := VR.string_inv (ev_sound he hp)
    refine Stp.pure' R (.int ..) ?_
    simp [execOp, ho, hc, hx, hts, resolve, invoke, builtin, Builtin.len_, run_underlying ht, k, goInt]
  · cases E
theorem s_lenC (R : Rel base r h w) (he : EnvR r e a.tmps) (hnm : ∀ n, nm = some n → n < h.next ∧ r n = none) {t el : TypeId} {n : Nat} {x : Operand} {c : Call} {o : Oper} (ho : o.op = .call c) (hc : c.callee = .builtin .len) (hx : c.args.toList = [x]) (hts : c.argTypes.toList = [t]) (ht : P.underlying t = some (.array n el))
    (E : opE (.lenC n) e h nm = some (v, h2)) : Stp base nm r h w v h2 ((execOp a.eval o).run P w) := by
  simp only [opE] at E; cases E
  have hx : c.args = #[x] := by rw [← hx]
  have hts : c.argTypes = #[t] := by rw [← hts]
  refine Stp.pure' R (.int ..) ?_
  simp [execOp, ho, hc, hx, hts, resolve, invoke, builtin, Builtin.len_, run_underlying ht, goInt]
theorem s_mm (R : Rel base r h w) (he : EnvR r e a.tmps) (hnm : ∀ n, nm = some n → n < h.next ∧ r n = none) {isMin : Bool} {x y : Operand} {c : Call} {o : Oper} (ho : o.op = .call c) (hc : c.callee = .builtin (if isMin then .min else .max)) (hx : c.args.toList = [x, y])
    (E : opE (.mm isMin x y) e h nm = some (v, h2)) : Stp base nm r h w v h2 ((execOp a.eval o).run P w) := by
  simp only [opE] at E
  have hx : c.args = #[x, y] := by rw [← hx]
  split at E
  · rename_i k p hp
    split at E
    · rename_i k2 q hq; cases E
      have j1 := VR.int_inv (ev_sound he hp)
      have j2 := VR.int_inv (ev_sound he hq)
      refine Stp.pure' R (.int ..) ?_
      cases isMin
      · simp [execOp, ho, hc, hx, resolve, invoke, builtin, j1, j2, run_max_int2]
      · simp [execOp, ho, hc, hx, resolve, invoke, builtin, j1, j2, run_min_int2]
    · cases E
  · cases E
theorem s_ixS (R : Rel base r h w) (he : EnvR r e a.tmps) (hnm : ∀ n, nm = some n → n < h.next ∧ r n = none) {t : TypeId} {x i : Operand} {o : Oper} (ho : o.op = .index t x i) (ht : P.underlying t = some .string)
    (E : opE (.ixS x i) e h nm = some (v, h2)) : Stp base nm r h w v h2 ((execOp a.eval o).run P w) := by
  simp only [opE] at E
  split at E
  · rename_i s hp
    split at E
    · rename_i k q hq
      split at E
      · rename_i h0
        split at E
        · rename_i b hb; cases E
          have j1 := VR.string_inv (ev_sound he hp)
          have j2 := VR.int_inv (ev_sound he hq)
          refine Stp.pure' R (.int ..) ?_
          simp [execOp, ho, j1, j2, Instr.index, asIntOf, run_underlying ht, h0, hb]
        · cases E
      · cases E
    · cases E
  · cases E
theorem s_ixA (R : Rel base r h w) (he : EnvR r e a.tmps) (hnm : ∀ n, nm = some n → n < h.next ∧ r n = none) {t el : TypeId} {n s : Nat} {ag : Bool} {x i : Operand} {o : Oper} (ho : o.op = .index t x i) (ht : P.underlying t = some (.array n el)) (hs : szOf P el = some s) (hA : isAggB P el = ag) {d : TypeDesc} (hd : P.underlying el = some d)
    (E : opE (.ixA n s ag x i) e h nm = some (v, h2)) : Stp base nm r h w v h2 ((execOp a.eval o).run P w) := by
  simp only [opE] at E
  obtain ⟨ii, hi, rfl⟩ := info_of_szOf hs
  split at E
  · rename_i cs hp
    split at E
    · rename_i k q hq
      split at E
      · rename_i h0
        obtain ⟨cs', e1, j1⟩ := (ev_sound he hp).agg_inv
        have j2 := VR.int_inv (ev_sound he hq)
        cases ag
        · simp only [Bool.false_eq_true, if_false] at E
          split at E
          · rename_i u hu; cases E
            obtain ⟨u', q1, q2⟩ := j1.get (i := q.toNat * ii.size) (v := v) (by simpa using hu)
            have e3 : cs'[q.toNat * ii.size]? = some u' := by simpa using q1
            refine Stp.pure' R q2 ?_
            simp [execOp, ho, e1, j2, Instr.index, asIntOf, run_underlying ht, h0, run_sizeOf' hi, run_part_one hd hA e3]
          · cases E
        · simp only [if_true] at E; cases E
          have e4 : VR r (.agg (cs.extract (q.toNat * ii.size) (q.toNat * ii.size + ii.size))) (.agg (cs'.extract (q.toNat * ii.size) (q.toNat * ii.size + ii.size))) := by
            exact VR.extract j1 _ _
          refine Stp.pure' R e4 ?_
          simp [execOp, ho, e1, j2, Instr.index, asIntOf, run_underlying ht, h0, run_sizeOf' hi, run_part_agg hA hi]
      · cases E
    · cases E
  · cases E
theorem s_fd (R : Rel base r h w) (he : EnvR r e a.tmps) (hnm : ∀ n, nm = some n → n < h.next ∧ r n = none) {t : TypeId} {fs : Array Field} {f : Field} {k : Nat} {n : Option Nat} {x : Operand} {o : Oper} (ho : o.op = .field t x k) (ht : P.underlying t = some (.struct fs)) (hf : fs[k]? = some f) {m : Nat} (hs : szOf P f.type = some m) {d : TypeDesc} (hd : P.underlying f.type = some d)
    (hn : (n = none ∧ isAggB P f.type = false) ∨ (n = some m ∧ isAggB P f.type = true)) (E : opE (.fd f.offset n x) e h nm = some (v, h2)) : Stp base nm r h w v h2 ((execOp a.eval o).run P w) := by
  simp only [opE] at E
  obtain ⟨ii, hi, rfl⟩ := info_of_szOf hs
  split at E
  · rename_i cs hp
    obtain ⟨cs', e1, j1⟩ := (ev_sound he hp).agg_inv
    rcases hn with ⟨rfl, hA⟩ | ⟨rfl, hA⟩
    · simp only at E
      split at E
      · rename_i u hu; cases E
        obtain ⟨u', q1, q2⟩ := j1.get (i := f.offset) (v := v) (by simpa using hu)
        have e3 : cs'[f.offset]? = some u' := by simpa using q1
        refine Stp.pure' R q2 ?_
        simp [execOp, ho, e1, Instr.field, run_underlying ht, hf, asAgg, run_part_one hd hA e3]
      · cases E
    · simp only at E; cases E
      have e4 : VR r (.agg (cs.extract f.offset (f.offset + ii.size))) (.agg (cs'.extract f.offset (f.offset + ii.size))) := VR.extract j1 _ _
      refine Stp.pure' R e4 ?_
      simp [execOp, ho, e1, Instr.field, run_underlying ht, hf, asAgg, run_part_agg hA hi]
  · cases E
theorem s_iaV (R : Rel base r h w) (he : EnvR r e a.tmps) (hnm : ∀ n, nm = some n → n < h.next ∧ r n = none) {t el : TypeId} {s : Nat} {x i : Operand} {o : Oper} (ho : o.op = .indexAddr t x i) (ht : P.underlying t = some (.slice el)) (hs : szOf P el = some s)
    (E : opE (.iaV s x i) e h nm = some (v, h2)) : Stp base nm r h w v h2 ((execOp a.eval o).run P w) := by
  simp only [opE] at E
  obtain ⟨ii, hi, rfl⟩ := info_of_szOf hs
  split at E
  · rename_i p n c hp
    split at E
    · rename_i k q hq
      split at E
      · rename_i h0; cases E
        obtain ⟨p', c', e1, g1, g2, _, g4⟩ := (ev_sound he hp).slice_inv
        have j2 := VR.int_inv (ev_sound he hq)
        obtain ⟨p'', rfl, g5, _⟩ := g4 p rfl
        obtain ⟨m1, L, m2, rfl⟩ := g5.resolve_right (by omega)
        refine Stp.pure' R (v' := .pointer (some ⟨L.b, L.o + (p.off + q.toNat * ii.size), none⟩)) (.ptr ⟨rfl, L, m2, rfl⟩) ?_
        simp [execOp, ho, e1, j2, Instr.indexAt, asIntOf, run_underlying ht, h0, run_sizeOf' hi, add_none, Nat.add_assoc]
      · cases E
    · cases E
  · cases E
theorem s_iaA (R : Rel base r h w) (he : EnvR r e a.tmps) (hnm : ∀ n, nm = some n → n < h.next ∧ r n = none) {t el : TypeId} {n s : Nat} {x i : Operand} {o : Oper} (ho : o.op = .indexAddr t x i) (ht : P.underlying t = some (.array n el)) (hs : szOf P el = some s)
    (E : opE (.iaA n s x i) e h nm = some (v, h2)) : Stp base nm r h w v h2 ((execOp a.eval o).run P w) := by
  simp only [opE] at E
  obtain ⟨ii, hi, rfl⟩ := info_of_szOf hs
  split at E
  · rename_i p hp
    split at E
    · rename_i k q hq
      split at E
      · rename_i h0; cases E
        obtain ⟨L, m1, m2, e1⟩ := (ev_sound he hp).ptr_inv
        have j2 := VR.int_inv (ev_sound he hq)
        refine Stp.pure' R (v' := .pointer (some ⟨L.b, L.o + (p.off + q.toNat * ii.size), none⟩)) (.ptr ⟨rfl, L, m2, rfl⟩) ?_
        simp [execOp, ho, e1, j2, Instr.indexAt, asIntOf, run_underlying ht, h0, run_sizeOf' hi, add_none, Nat.add_assoc, Instr.sureAddr]
      · cases E
    · cases E
  · cases E
end ops
end Go.Proofs.Ytkfjlbdedjoojaa.Am
namespace Go.Proofs.Ytkfjlbdedjoojaa.Am
open Go
set_option linter.unusedVariables false
set_option linter.unusedSimpArgs false
variable {P : Program} {base : Nat} {r : Rho} {h h2 : H} {w : World} {e : Env} {a : Act} {nm : Option Nat} {v : Value}
theorem bnd_sound (he : EnvR r e a.tmps) {x : Option Operand} {b : Option Nat} (E : bnd e x = some b) : (x = none ∧ b = none) ∨ ∃ (k : IntKind) (i : Int) (y : Operand), x = some y ∧ b = some i.toNat ∧ 0 ≤ i ∧ a.eval y = .int k i := by
  cases x with
  | none => simp only [bnd] at E; cases E; exact .inl ⟨rfl, rfl⟩
  | some y =>
    simp only [bnd] at E
    split at E
    · rename_i k i hi
      split at E
      · rename_i h0; cases E; exact .inr ⟨k, i, y, rfl, rfl, h0, VR.int_inv (ev_sound he hi)⟩
      · cases E
    · cases E
theorem run_bound (k : IntKind) (i : Int) (y : Nat) (code : BoundsCode) (h0 : 0 ≤ i) (h1 : i.toNat ≤ y) (w : World) : (Instr.sliceBound (.int k i) y code).run P w = .ok i.toNat w := by
  have : i ≤ y := by omega
  simp [Instr.sliceBound, asIntOf, h0, this]
theorem run_bounds (he : EnvR r e a.tmps) {sl : Bool} {n cap : Nat} {lo hi mx : Option Operand} {l hh m : Option Nat} (h1 : bnd e lo = some l) (h2 : bnd e hi = some hh) (h3 : bnd e mx = some m)
    (q1 : l.getD 0 ≤ hh.getD n) (q2 : hh.getD n ≤ m.getD cap) (q3 : m.getD cap ≤ cap) (q4 : m.isSome = true → hh.isSome = true) (w : World) :
    (Instr.sliceBounds sl n cap (lo.map a.eval) (hi.map a.eval) (mx.map a.eval)).run P w = .ok (l.getD 0, hh.getD n, m.getD cap) w := by
  unfold Instr.sliceBounds
  rcases bnd_sound he h1 with ⟨rfl, rfl⟩ | ⟨k1, i1, y1, rfl, rfl, p1, e1⟩ <;> rcases bnd_sound he h2 with ⟨rfl, rfl⟩ | ⟨k2, i2, y2, rfl, rfl, p2, e2⟩ <;> rcases bnd_sound he h3 with ⟨rfl, rfl⟩ | ⟨k3, i3, y3, rfl, rfl, p3, e3⟩
  all_goals simp only [Option.getD_some, Option.getD_none] at q1 q2 q3
  · simp
  · simp at q4
  · simp [e2, run_bound k2 i2 cap _ p2 q2]
  · simp [e2, e3, run_bound k3 i3 cap _ p3 q3, run_bound k2 i2 _ _ p2 q2]
  · simp [e1, run_bound k1 i1 n _ p1 q1]
  · simp at q4
  · simp [e1, e2, run_bound k2 i2 cap _ p2 q2, run_bound k1 i1 _ _ p1 q1]
  · simp [e1, e2, e3, run_bound k3 i3 cap _ p3 q3, run_bound k2 i2 _ _ p2 q2, run_bound k1 i1 _ _ p1 q1]
theorem bytesL_run : ∀ {vs : List Value} {s u : ByteArray}, bytesL vs s = some u → ∃ ns : List Int, vs = ns.map (Value.int .u8) ∧ u = ns.foldl (fun r n => r.push (UInt8.ofNat n.toNat)) s := by
  intro vs
  induction vs with
  | nil => intro s u h; simp only [bytesL] at h; cases h; exact ⟨[], rfl, rfl⟩
  | cons v vs ih =>
    intro s u h
    cases v with
    | int k n =>
      cases k <;> first | (simp [bytesL] at h; done) | skip
      simp only [bytesL] at h
      obtain ⟨ns, g1, g2⟩ := ih h
      exact ⟨n :: ns, by simp [g1], by simpa using g2⟩
    | _ => simp [bytesL] at h
theorem src_sound (R : Rel base r h w) {yv y' : Value} (k : VR r yv y') {n m es : Nat} (hn : srcLen yv = some n) (hm : m ≤ n) {src : List Value} (hs : srcCells h es m yv = some src) :
    ∃ src', (∀ w, (Builtin.lenOf y').run P w = .ok n w) ∧ (Builtin.firstCells es m y').run P w = .ok src'.toArray w ∧ (Builtin.firstCells es m y').run P w.drew = .ok src'.toArray w.drew ∧ VL r src src' ∧ src.length = m * es := by
  unfold srcLen at hn
  split at hn
  · rename_i p n' c; cases hn
    obtain ⟨p', c', rfl, g1, g2, g3, g4⟩ := k.slice_inv
    unfold srcCells at hs
    split at hs
    · rename_i q _ _ heq; cases heq
      obtain ⟨q', rfl, g5, _⟩ := g4 q rfl
      have hz : m * es = 0 ∨ AR r q q' := by
        rcases g5 with g5 | g5
        · exact .inr g5
        · left
          have : m = 0 := by omega
          rw [this, Nat.zero_mul]
      obtain ⟨vs', k1, k2, k3, k4⟩ := lds_run (P := P) R hz hs
      exact ⟨vs', fun w => by simp [Builtin.lenOf], by simpa [Builtin.firstCells] using k1 w rfl, by simpa [Builtin.firstCells] using k1 w.drew rfl, k2, k3⟩
    · rename_i heq; cases heq
      obtain ⟨rfl, _, _, _⟩ := g3 rfl
      split at hs
      · rename_i h0; cases hs; subst h0
        exact ⟨[], fun w => by simp [Builtin.lenOf], by simp [Builtin.firstCells], by simp [Builtin.firstCells], VL.nil r, by simp⟩
      · cases hs
    · rename_i heq; cases heq
    · cases hs
  · rename_i s; cases hn
    obtain rfl := VR.string_inv k
    simp only [srcCells] at hs
    split at hs
    · rename_i h1; cases hs; subst h1
      refine ⟨((s.extract 0 m).data.map fun b => Value.int .u8 b.toNat).toList, fun w => by simp [Builtin.lenOf], by simp only [Builtin.firstCells, Array.toArray_toList]; rfl, by simp only [Builtin.firstCells, Array.toArray_toList]; rfl, ⟨rfl, fun i v v' a b => ?_⟩, ?_⟩
      · rw [a] at b; cases b
        have := List.mem_of_getElem? a
        simp only [Array.toList_map, List.mem_map] at this
        obtain ⟨x, _, rfl⟩ := this; exact .int ..
      · simp; omega
    · cases hs
  · cases hn
section ops
theorem s_slS (R : Rel base r h w) (he : EnvR r e a.tmps) (hnm : ∀ n, nm = some n → n < h.next ∧ r n = none) {t : TypeId} {x : Operand} {lo hi : Option Operand} {o : Oper} (ho : o.op = .slice t x lo hi none) (ht : P.underlying t = some .string)
    (E : opE (.slS x lo hi) e h nm = some (v, h2)) : Stp base nm r h w v h2 ((execOp a.eval o).run P w) := by
  simp only [opE] at E
  split at E
  · rename_i s hs
    split at E
    · rename_i l hh hl hhh
      split at E
      · rename_i hc; cases E
        have k := VR.string_inv (ev_sound he hs)
        refine Stp.pure' R (.string _) ?_
        have := run_bounds (P := P) he (sl := false) (n := s.size) (cap := s.size) (mx := none) (m := none) hl hhh rfl hc.1 hc.2 (Nat.le_refl _) (fun q => by cases q) w
        simp only [Option.map_none] at this
        simp [execOp, ho, Instr.sliceAt, Instr.slice, run_underlying ht, k, this]
      · cases E
    · cases E
  · cases E
theorem s_slV (R : Rel base r h w) (he : EnvR r e a.tmps) (hnm : ∀ n, nm = some n → n < h.next ∧ r n = none) {t el : TypeId} {s : Nat} {x : Operand} {lo hi mx : Option Operand} {o : Oper} (ho : o.op = .slice t x lo hi mx) (ht : P.underlying t = some (.slice el)) (hs : szOf P el = some s)
    (E : opE (.slV s x lo hi mx) e h nm = some (v, h2)) : Stp base nm r h w v h2 ((execOp a.eval o).run P w) := by
  simp only [opE] at E
  obtain ⟨ii, hi', rfl⟩ := info_of_szOf hs
  split at E
  · rename_i p n c hp
    split at E
    · rename_i l hh m hl hhh hm
      split at E
      · rename_i hc
        obtain ⟨p', c', e1, g1, g2, g3, g4⟩ := (ev_sound he hp).slice_inv
        obtain ⟨c1, c2, c3, c4⟩ := hc
        have hb := run_bounds (P := P) he (sl := true) (n := n) (cap := c') (mx := mx) (m := m) hl hhh hm c1 (by
          cases m with
          | none => simp only [Option.getD_none] at c2 ⊢; omega
          | some m => exact c2) (by
          cases m with
          | none => simp
          | some m => simp only [Option.getD_some] at c3 ⊢; omega) c4 w
        have c2' : hh.getD n ≤ m.getD c' := by
          cases m with
          | none => simp only [Option.getD_none] at c2 ⊢; omega
          | some m => exact c2
        have c3' : m.getD c' ≤ c' := by
          cases m with
          | none => simp
          | some m => simp only [Option.getD_some] at c3 ⊢; omega
        have hm' : m.getD (c / 2) ≤ m.getD c' := by cases m <;> simp [g2]
        have run : (execOp a.eval o).run P w = .ok (.value (.slice (if m.getD c' = l.getD 0 then p' else p'.map (·.add (l.getD 0 * ii.size))) (hh.getD n - l.getD 0) (m.getD c' - l.getD 0))) w := by
          simp [execOp, ho, Instr.sliceAt, Instr.slice, run_underlying ht, e1, hb, run_sizeOf' hi']
        split at E
        · split at E
          · rename_i hz; cases E
            obtain ⟨z1, z2, z3, z4, z5⟩ := hz
            obtain ⟨rfl, _, _, rfl⟩ := g3 rfl
            refine Stp.pure' R .sl0 ?_
            rw [run, z1, z2]
            have : m.getD 0 = 0 := by omega
            rw [this]; simp
          · cases E
        · rename_i p
          obtain ⟨q', rfl, g5, g6, g7⟩ := g4 p rfl
          have hval : (if m.getD c' = l.getD 0 then some q' else (some q').map (·.add (l.getD 0 * ii.size))) = some (if m.getD c' = l.getD 0 then q' else q'.add (l.getD 0 * ii.size)) := by split <;> rfl
          rw [hval] at run
          have hAR : AR r ⟨p.block, p.off + l.getD 0 * ii.size, none⟩ (if m.getD c' = l.getD 0 then q' else q'.add (l.getD 0 * ii.size)) ∨ m.getD c' - l.getD 0 = 0 := by
            by_cases q : m.getD c' = l.getD 0
            · right; omega
            · rw [if_neg q]
              left
              obtain ⟨m1, L, m2, rfl⟩ := g5.resolve_right (by omega)
              exact ⟨rfl, L, m2, by rw [add_none, Nat.add_assoc]⟩
          split at E
          · rename_i hodd; cases E
            refine Stp.pure' R (.sl hAR (by omega) (by omega) (fun _ => ?_) (fun q => by omega)) run
            rcases hodd with hodd | hodd
            · have := g6 hodd; rw [this]
              cases m with
              | none => simp only [Option.getD_none]; omega
              | some m => simp only [Option.getD_some]; omega
            · cases m with
              | none => cases hodd
              | some m => simp only [Option.getD_some]; omega
          · rename_i hodd
            split at E
            · rename_i B hB
              split at E
              · rename_i hes; cases E
                refine Stp.pure' R (.sl hAR (by omega) (by omega) (fun q => by omega) (fun _ => ?_)) run
                obtain ⟨L, m1, m2⟩ := g7 (by omega)
                obtain ⟨L', _, _, _, n1, _, n3, _⟩ := R.cells _ B hB
                rw [m1] at n1; cases n1
                have he2 : L.es = ii.size := n3.trans hes
                refine ⟨L, m1, ?_⟩
                rw [he2] at m2 ⊢
                have : l.getD 0 * ii.size + (m.getD c' - l.getD 0) * ii.size = m.getD c' * ii.size := by rw [← Nat.add_mul]; congr 1; omega
                have h5 : m.getD c' * ii.size ≤ c' * ii.size := Nat.mul_le_mul_right _ c3'
                simp only; omega
              · cases E
            · cases E
      · cases E
    · cases E
  · cases E
theorem s_slA (R : Rel base r h w) (he : EnvR r e a.tmps) (hnm : ∀ n, nm = some n → n < h.next ∧ r n = none) {t el : TypeId} {n s : Nat} {x : Operand} {lo hi mx : Option Operand} {o : Oper} (ho : o.op = .slice t x lo hi mx) (ht : P.underlying t = some (.array n el)) (hs : szOf P el = some s)
    (E : opE (.slA n s x lo hi mx) e h nm = some (v, h2)) : Stp base nm r h w v h2 ((execOp a.eval o).run P w) := by
  simp only [opE] at E
  obtain ⟨ii, hi', rfl⟩ := info_of_szOf hs
  split at E
  · rename_i p hp
    split at E
    · rename_i l hh m hl hhh hm
      split at E
      · rename_i hc; cases E
        obtain ⟨c1, c2, c3, c4⟩ := hc
        obtain ⟨L, m1, m2, e1⟩ := (ev_sound he hp).ptr_inv
        have hb := run_bounds (P := P) he (sl := false) (n := n) (cap := n) (mx := mx) (m := m) hl hhh hm c1 c2 c3 c4 w
        refine Stp.pure' R (v' := .slice (some (if m.getD n = l.getD 0 then ⟨L.b, L.o + p.off, none⟩ else (⟨L.b, L.o + p.off, none⟩ : Addr).add (l.getD 0 * ii.size))) (hh.getD n - l.getD 0) (m.getD n - l.getD 0)) (.sl ?_ (by omega) (by omega) (fun _ => by omega) (fun q => by omega)) ?_
        · by_cases q : m.getD n = l.getD 0
          · right; omega
          · rw [if_neg q]; left; exact ⟨rfl, L, m2, by rw [add_none, Nat.add_assoc]⟩
        · simp [execOp, ho, Instr.sliceAt, run_underlying ht, e1, Instr.sureAddr, hb, run_sizeOf' hi']
      · cases E
    · cases E
  · cases E
theorem s_cvB (R : Rel base r h w) (he : EnvR r e a.tmps) (hnm : ∀ n, nm = some n → n < h.next ∧ r n = none) {s d el : TypeId} {x : Operand} {o : Oper} (ho : o.op = .convert s d x) (hs : P.underlying s = some (.slice el)) (hel : P.underlying el = some (.int .u8)) (hd : P.underlying d = some .string)
    (E : opE (.cvB x) e h nm = some (v, h2)) : Stp base nm r h w v h2 ((execOp a.eval o).run P w) := by
  simp only [opE] at E
  split at E
  · rename_i hx; cases E
    obtain ⟨p', c', e1, g1, g2, g3, g4⟩ := (ev_sound he hx).slice_inv
    obtain ⟨rfl, _, _, rfl⟩ := g3 rfl
    refine Stp.pure' R (.string _) ?_
    simp [execOp, ho, e1, convert, run_underlying hs, run_underlying hd, run_underlying hel, Conv.bytesToString]
  · rename_i p n c hx
    split at E
    · rename_i vs hvs
      split at E
      · rename_i u hu; cases E
        obtain ⟨p', c', e1, g1, g2, g3, g4⟩ := (ev_sound he hx).slice_inv
        obtain ⟨q', rfl, g5, _⟩ := g4 p rfl
        have hz : n = 0 ∨ AR r p q' := by
          rcases g5 with g5 | g5
          · exact .inr g5
          · left; omega
        obtain ⟨vs', k1, k2, k3, k4⟩ := lds_run (P := P) R hz hvs
        obtain ⟨ns, j1, j2⟩ := bytesL_run hu
        have hvs' : vs' = ns.map (Value.int .u8) := by
          subst j1
          refine List.ext_getElem? fun i => ?_
          cases hq : (ns.map (Value.int IntKind.u8))[i]? with
          | none =>
            have := k2.1
            rw [List.getElem?_eq_none_iff] at hq ⊢
            omega
          | some y =>
            obtain ⟨y', y1, y2⟩ := k2.get hq
            rw [List.getElem?_map] at hq
            cases hn : ns[i]? with
            | none => rw [hn] at hq; cases hq
            | some z => rw [hn] at hq; cases hq; rw [y1, VR.int_inv y2]
        refine Stp.pure' R (.string _) ?_
        have hr := run_bytesToString (P := P) w q' n c' ns (by rw [← hvs']; exact k1 w rfl)
        simp [execOp, ho, e1, run_convert_bytes_string w s d el (some q') n c' hs hel hd, hr, ← j2]
      · cases E
    · cases E
  · cases E
end ops
end Go.Proofs.Ytkfjlbdedjoojaa.Am
