/- The abstract machine's operations are the model's: the first half. -/
import Derived.Test.YtncpdahappmhkaaAmC
namespace Go.Proofs.Ytncpdahappmhkaa.Am
open Go
set_option linter.unusedVariables false
set_option linter.unusedSimpArgs false

def EnvR (r : Rho) (e : Env) (ts : Array Value) : Prop := ∀ t v, look e t = some v → ∃ v', ts[t]? = some v' ∧ VR r v v'
theorem EnvR.mono {r s : Rho} {e : Env} {ts : Array Value} (h : EnvR r e ts) (k : r.le s) : EnvR s e ts := fun t v e1 => by
  obtain ⟨v', a, b⟩ := h t v e1; exact ⟨v', a, b.mono k⟩

theorem VR.of_plain1 {r : Rho} {v : Value} (h : plain1 v = true) : VR r v v := by
  unfold plain1 at h
  split at h <;> first | (cases h; done) | constructor
theorem VR.of_plainL {r : Rho} {l : List Value} (h : l.all plain1 = true) : VL r l l :=
  ⟨rfl, fun i v v' a b => by rw [a] at b; cases b; exact VR.of_plain1 (List.all_eq_true.1 h v (List.mem_of_getElem? a))⟩
theorem VR.of_plain {r : Rho} {v : Value} (h : plain v = true) : VR r v v := by
  unfold plain at h
  split at h
  · exact .agg rfl fun i v v' a b => by rw [a] at b; cases b; exact VR.of_plain1 (List.all_eq_true.1 h v (List.mem_of_getElem? (by simpa using a)))
  · exact .tuple rfl fun i v v' a b => by rw [a] at b; cases b; exact VR.of_plain1 (List.all_eq_true.1 h v (List.mem_of_getElem? (by simpa using a)))
  · exact VR.of_plain1 h
theorem oneCell_of_plain1 {v : Value} (h : plain1 v = true) : v.oneCell' = true := by
  unfold plain1 at h; split at h <;> first | (cases h; done) | rfl

theorem ev_sound {r : Rho} {e : Env} {a : Act} (he : EnvR r e a.tmps) {x : Operand} {v : Value} (h : ev e x = some v) : VR r v (a.eval x) := by
  cases x with
  | tmp t =>
    obtain ⟨v', h1, h2⟩ := he t v h
    simpa [Act.eval, Array.getD_eq_getD_getElem?, h1] using h2
  | const c =>
    simp only [ev] at h
    split at h
    · rename_i hp; cases h; exact VR.of_plain hp
    · cases h
  | global g => cases h
  | func f => cases h; exact .func _ rfl (fun i v v' a _ => by simp at a) rfl (fun i v v' a _ => by simp at a)
theorem evs_sound {r : Rho} {e : Env} {a : Act} (he : EnvR r e a.tmps) : ∀ {xs : List Operand} {vs : List Value}, evs e xs = some vs → VL r vs (xs.map a.eval) := by
  intro xs
  induction xs with
  | nil => intro vs h; cases h; exact VL.nil r
  | cons x xs ih =>
    intro vs h
    simp only [evs] at h
    split at h
    · rename_i v hv
      split at h
      · rename_i l hl; cases h; exact VL.cons (ev_sound he hv) (ih hl)
      · cases h
    · cases h

def Fsh (nm : Option Nat) (r : Rho) (h : H) (r2 : Rho) : Prop := ∀ n, n < h.next → nm ≠ some n → r n = none → r2 n = none
theorem Fsh.refl (nm : Option Nat) (r : Rho) (h : H) : Fsh nm r h r := fun _ _ _ k => k

/-- What the model's operation comes to. -/
def Stp (base : Nat) (nm : Option Nat) (r : Rho) (h : H) (w : World) (v : Value) (h2 : H) (res : Result Next) : Prop :=
  ∃ r2 w2 v', (res = .ok (.value v') w2 ∨ (res = .ok .skip w2 ∧ v' = undef)) ∧ VR r2 v v' ∧ Rel base r2 h2 w2 ∧ Fr base r h w r2 h2 w2 ∧ Fsh nm r h r2

variable {P : Program} {base : Nat} {r : Rho} {h h2 : H} {w : World} {e : Env} {a : Act} {nm : Option Nat} {v : Value}

theorem Stp.pure (R : Rel base r h w) {v' : Value} (k : VR r v v') : Stp base nm r h w v h (.ok (.value v') w) :=
  ⟨r, w, v', .inl rfl, k, R, Fr.refl .., Fsh.refl nm r h⟩
theorem Stp.pure' (R : Rel base r h w) {v' : Value} {res : Result Next} (k : VR r v v') (e1 : res = .ok (.value v') w) : Stp base nm r h w v h res := by
  subst e1; exact Stp.pure R k

/-- A new block of the model's. -/
theorem Rel.mkb (R : Rel base r h w) (hnm : ∀ n, nm = some n → n < h.next ∧ r n = none) {cs : List Value} {c : Array Value} {t : TypeId} {es lim : Nat}
    (hl : cs.length ≤ lim) (hl2 : lim ≤ c.size) (hc : ∀ (i : Nat) (v : Value), cs[i]? = some v → v.oneCell' = true ∧ ∃ v', c[i]? = some v' ∧ VR r v v') :
    ∃ r2, r2 (h.mkb nm ⟨cs, es, false⟩).1 = some ⟨w.heap.size, 0, lim, es⟩ ∧ Rel base r2 (h.mkb nm ⟨cs, es, false⟩).2 (w.alloc (.cells c t)) ∧
      Fr base r h w r2 (h.mkb nm ⟨cs, es, false⟩).2 (w.alloc (.cells c t)) ∧ Fsh nm r h r2 := by
  cases nm with
  | some n =>
    obtain ⟨h1, h2⟩ := hnm n rfl
    obtain ⟨q1, q2⟩ := R.new_at (e := t) (es := es) h1 h2 hl hl2 hc
    exact ⟨_, Rho.put_same .., q1, q2, fun m hm hne hr => by rw [Rho.put_ne _ _ (fun e1 => hne (by rw [e1]; rfl))]; exact hr⟩
  | none =>
    have hf : r h.next = none := R.new _ (Nat.le_refl _)
    obtain ⟨q1, q2⟩ := (R.up 1).new_at (nm := h.next) (e := t) (es := es) (by rw [H.next_up]; omega) hf hl hl2 hc
    exact ⟨_, Rho.put_same .., q1, (Fr.up base r h w 1).trans q2, fun m hm hne hr => by rw [Rho.put_ne _ _ (by show m ≠ h.next; omega)]; exact hr⟩
theorem AR.at {r2 : Rho} {m : Nat} {L : Loc} (hr : r2 m = some L) (h0 : L.o = 0) : AR r2 ⟨m, 0, none⟩ ⟨L.b, 0, none⟩ := ⟨rfl, L, hr, by simp [h0]⟩

theorem VL.cells_of {l l' : List Value} (k : VL r l l') (h1 : l.all (·.oneCell') = true) (m : List Value) : ∀ (i : Nat) (v : Value), l[i]? = some v → v.oneCell' = true ∧ ∃ v', (l' ++ m).toArray[i]? = some v' ∧ VR r v v' := fun i v hv => by
  obtain ⟨v', q1, q2⟩ := k.get hv
  refine ⟨List.all_eq_true.1 h1 v (List.mem_of_getElem? hv), v', ?_, q2⟩
  have hi : i < l'.length := (List.getElem?_eq_some_iff.1 q1).1
  simp [List.getElem?_append, hi, ← q1]

theorem info_of_szOf {t : TypeId} {n : Nat} (h : szOf P t = some n) : ∃ i, P.info? t = some i ∧ i.size = n := by
  unfold szOf at h
  cases hi : P.info? t with
  | none => rw [hi] at h; cases h
  | some i => rw [hi] at h; simp at h; exact ⟨i, rfl, h⟩
theorem zeroL_spec {t : TypeId} {z : List Value} (h : zeroL P t = some z) : ∃ i zv, P.info? t = some i ∧ i.zero = some zv ∧ zv.cells.toList = z ∧ z.all plain1 = true ∧ z.length = i.size := by
  unfold zeroL at h
  split at h
  · rename_i i hi
    split at h
    · rename_i zv hz
      split at h
      · rename_i hc; cases h; exact ⟨i, zv, hi, hz, rfl, by simpa using hc.1, hc.2⟩
      · cases h
    · cases h
  · cases h
theorem run_sizeOf' {t : TypeId} {i : TypeInfo} (h : P.info? t = some i) (w : World) : (sizeOf t).run P w = .ok i.size w := by
  simp [sizeOf, typeInfo, h]
theorem run_zero' {t : TypeId} {i : TypeInfo} {z : Value} (h : P.info? t = some i) (hz : i.zero = some z) (w : World) : (zeroValue t).run P w = .ok z w := by
  simp [zeroValue, typeInfo, h, hz]

theorem VR.int_inv {r : Rho} {k : IntKind} {n : Int} {v' : Value} (h : VR r (.int k n) v') : v' = .int k n := by cases h; rfl
theorem VR.string_inv {r : Rho} {s : ByteArray} {v' : Value} (h : VR r (.string s) v') : v' = .string s := by cases h; rfl
theorem VR.bool_inv {r : Rho} {b : Bool} {v' : Value} (h : VR r (.bool b) v') : v' = .bool b := by cases h; rfl

theorem binV_run {op : BinOp} {t : TypeId} {x y : Operand} {p q u : Value} {p' q' : Value} (hp : VR r p p') (hq : VR r q q') (E : binV op p q = some u) :
    (eqGuard op t x y p' q').run P w = .ok () w ∧ (binOp op t p' q').run P w = .ok u w ∧ VR r u u := by
  unfold binV at E
  split at E
  · obtain rfl := VR.int_inv hp; obtain rfl := VR.int_inv hq
    refine ⟨by cases op <;> simp [eqGuard], ?_⟩
    rename_i k a k' b
    cases op <;> simp only at E
    case shl =>
      split at E
      · cases E
      · rename_i hb; cases E; exact ⟨by simp [binOp, Op.shift, hb], .int ..⟩
    case shr =>
      split at E
      · cases E
      · rename_i hb; cases E; exact ⟨by simp [binOp, Op.shift, hb], .int ..⟩
    all_goals
      split at E
      · cases E
      · rename_i hk
        have hk : k = k' := by simpa using hk
        subst hk
        first
          | (cases E; first | (refine ⟨?_, .int ..⟩; simp only [binOp, ne_eq, not_true_eq_false, if_false]; rfl) | (refine ⟨?_, .bool ..⟩; simp [binOp, Op.intCmp]; done))
          | (split at E
             · cases E
             · rename_i hb; cases E; exact ⟨by simp [binOp, Op.intDiv, hb], .int ..⟩)
  · obtain rfl := VR.string_inv hp; obtain rfl := VR.string_inv hq
    refine ⟨by cases op <;> simp [eqGuard], ?_⟩
    cases op <;> simp only at E
    case add =>
      split at E
      · rename_i hb; cases E
        refine ⟨?_, .string ..⟩
        simp only [binOp, Op.stringOp]
        rw [if_neg (by rw [show IntKind.i64.max = 9223372036854775807 from rfl]; omega)]; rfl
      · cases E
    all_goals first | (cases E; done) | (cases E; exact ⟨by simp [binOp, Op.stringOp], .bool ..⟩)
  · cases E

section ops

theorem s_mov (R : Rel base r h w) (he : EnvR r e a.tmps) (hnm : ∀ n, nm = some n → n < h.next ∧ r n = none) {x : Operand} {o : Oper} (ho : o.op = .move x ∨ o.op = .assign x) (E : opE (.mov x) e h nm = some (v, h2)) : Stp base nm r h w v h2 ((execOp a.eval o).run P w) := by
  simp only [opE] at E
  split at E
  · rename_i u hu; cases E
    exact Stp.pure' R (ev_sound he hu) (by rcases ho with ho | ho <;> simp [execOp, ho])
  · cases E

theorem s_pick (R : Rel base r h w) (he : EnvR r e a.tmps) (hnm : ∀ n, nm = some n → n < h.next ∧ r n = none) {c x y : Operand} {o : Oper} (ho : o.op = .pick c x y) (E : opE (.pick c x y) e h nm = some (v, h2)) : Stp base nm r h w v h2 ((execOp a.eval o).run P w) := by
  simp only [opE] at E
  split at E
  · rename_i hc
    have kc := ev_sound he hc
    split at E
    · rename_i u hu; cases E
      refine Stp.pure' R (ev_sound he hu) ?_
      cases hq : a.eval c <;> rw [hq] at kc <;> cases kc
      simp [execOp, ho, hq, asBool]
    · cases E
  · rename_i hc
    have kc := ev_sound he hc
    split at E
    · rename_i u hu; cases E
      refine Stp.pure' R (ev_sound he hu) ?_
      cases hq : a.eval c <;> rw [hq] at kc <;> cases kc
      simp [execOp, ho, hq, asBool]
    · cases E
  · cases E

theorem s_new (R : Rel base r h w) (he : EnvR r e a.tmps) (hnm : ∀ n, nm = some n → n < h.next ∧ r n = none) {t : TypeId} {z : List Value} {o : Oper} (ho : o.op = .alloc t) (hz : zeroL P t = some z) (E : opE (.new z) e h nm = some (v, h2)) : Stp base nm r h w v h2 ((execOp a.eval o).run P w) := by
  simp only [opE] at E; cases E
  obtain ⟨i, zv, q1, q2, q3, q4, q5⟩ := zeroL_spec hz
  obtain ⟨r2, g1, g2, g3, g4⟩ := R.mkb (cs := z) (c := zv.cells) (t := t) (es := 0) (lim := z.length) hnm (Nat.le_refl _) (by rw [← q3]; simp) (fun k u hu => by
    have hp := List.all_eq_true.1 q4 u (List.mem_of_getElem? hu)
    exact ⟨oneCell_of_plain1 hp, u, by rw [← q3] at hu; simpa using hu, VR.of_plain1 hp⟩)
  refine ⟨r2, _, .pointer (some ⟨w.heap.size, 0, none⟩), .inl ?_, .ptr (AR.at g1 rfl), g2, g3, g4⟩
  simp [execOp, ho, Instr.alloc, run_zero' q1 q2, newVar, newRow]

theorem s_box (R : Rel base r h w) (he : EnvR r e a.tmps) (hnm : ∀ n, nm = some n → n < h.next ∧ r n = none) {t : TypeId} {x : Operand} {o : Oper} (ho : o.op = .box t x) (E : opE (.box x) e h nm = some (v, h2)) : Stp base nm r h w v h2 ((execOp a.eval o).run P w) := by
  simp only [opE] at E
  split at E
  · rename_i u hu
    split at E
    · rename_i h1; cases E
      have k := (ev_sound he hu).cells
      obtain ⟨r2, g1, g2, g3, g4⟩ := R.mkb (cs := u.cells.toList) (c := (a.eval x).cells) (t := t) (es := 0) (lim := u.cells.toList.length) hnm (Nat.le_refl _) (by rw [k.1]; simp) (fun i u' hu' => by
        obtain ⟨q1, v', q2, q3⟩ := k.cells_of h1 [] i u' hu'
        exact ⟨q1, v', by simpa using q2, q3⟩)
      refine ⟨r2, _, .pointer (some ⟨w.heap.size, 0, none⟩), .inl ?_, .ptr (AR.at g1 rfl), g2, g3, g4⟩
      simp [execOp, ho, Instr.box, newVar, newRow]
    · cases E
  · cases E

theorem s_ld1 (R : Rel base r h w) (he : EnvR r e a.tmps) (hnm : ∀ n, nm = some n → n < h.next ∧ r n = none) {t : TypeId} {d : TypeDesc} {x : Operand} {o : Oper} (ho : o.op = .load t x) (hd : P.underlying t = some d) (hA : isAggB P t = false) (E : opE (.ld1 x) e h nm = some (v, h2)) : Stp base nm r h w v h2 ((execOp a.eval o).run P w) := by
  simp only [opE] at E
  split at E
  · rename_i p hp
    split at E
    · rename_i u hu; cases E
      have k := ev_sound he hp
      generalize hq : a.eval x = q at k
      cases k with
      | ptr k =>
        obtain ⟨v', g1, g2, g3⟩ := ld_run R k hu
        refine Stp.pure' R g2 ?_
        unfold isAggB at hA; rw [hd] at hA
        have : (isAgg t).run P w = .ok false w := by
          unfold isAgg
          cases d <;> first | (simp at hA; done) | simp [run_underlying hd]
        simp [execOp, ho, Instr.loadAt, Instr.sureAddr, hq, loadVar, this, run_load, g1]
    · cases E
  · cases E

theorem s_ldN (R : Rel base r h w) (he : EnvR r e a.tmps) (hnm : ∀ n, nm = some n → n < h.next ∧ r n = none) {t : TypeId} {n : Nat} {x : Operand} {o : Oper} (ho : o.op = .load t x) (hs : szOf P t = some n) (hA : isAggB P t = true) (E : opE (.ldN n x) e h nm = some (v, h2)) : Stp base nm r h w v h2 ((execOp a.eval o).run P w) := by
  simp only [opE] at E
  split at E
  · rename_i p hp
    split at E
    · rename_i vs hvs; cases E
      obtain ⟨i, hi, rfl⟩ := info_of_szOf hs
      have k := ev_sound he hp
      generalize hq : a.eval x = q at k
      cases k with
      | ptr k =>
        obtain ⟨vs', g1, g2, g3, g4⟩ := lds_run (P := P) R (.inr k) hvs
        refine Stp.pure' R (VR.ofAgg g2) ?_
        have : (isAgg t).run P w = .ok true w := by
          unfold isAggB at hA; unfold isAgg
          cases hd : P.underlying t with
          | none => rw [hd] at hA; cases hA
          | some d => rw [hd] at hA; cases d <;> first | (simp at hA; done) | simp [run_underlying hd]
        simp [execOp, ho, Instr.loadAt, Instr.sureAddr, hq, loadVar, this, run_sizeOf' hi, g1 w rfl]
    · cases E
  · cases E

theorem s_st (R : Rel base r h w) (he : EnvR r e a.tmps) (hnm : ∀ n, nm = some n → n < h.next ∧ r n = none) {t : TypeId} {n : Nat} {x y : Operand} {o : Oper} (ho : o.op = .store t x y) (hs : szOf P t = some n) (E : opE (.st n x y) e h nm = some (v, h2)) : Stp base nm r h w v h2 ((execOp a.eval o).run P w) := by
  simp only [opE] at E
  split at E
  · rename_i p hp
    split at E
    · rename_i u hu
      split at E
      · rename_i hl
        split at E
        · rename_i h3 hst; cases E
          obtain ⟨i, hi, rfl⟩ := info_of_szOf hs
          have k := ev_sound he hp
          have ku := (ev_sound he hu).cells
          generalize hq : a.eval x = q at k
          cases k with
          | ptr k =>
            obtain ⟨w2, g1, g2, g3⟩ := sts_run (P := P) R (.inr k) ku hst
            refine ⟨r, w2, undef, .inr ⟨?_, rfl⟩, .tuple rfl (fun i v v' a _ => by simp at a), g2, g3, Fsh.refl nm r h⟩
            have hsz : (a.eval y).cells.size = i.size := by have := ku.1; simp only [Array.length_toList] at this; simp only [Array.length_toList] at hl; omega
            simp [execOp, ho, Instr.storeAt, Instr.sureAddr, hq, storeVar, run_sizeOf' hi, hsz, g1]
        · cases E
      · cases E
    · cases E
  · cases E

theorem s_nck (R : Rel base r h w) (he : EnvR r e a.tmps) (hnm : ∀ n, nm = some n → n < h.next ∧ r n = none) {x : Operand} {o : Oper} (ho : o.op = .nilCheck x) (E : opE (.nck x) e h nm = some (v, h2)) : Stp base nm r h w v h2 ((execOp a.eval o).run P w) := by
  simp only [opE] at E
  split at E <;> (try (cases E; done)) <;> cases E <;> rename_i hx <;> have k := ev_sound he hx <;> generalize hq : a.eval x = q at k
  all_goals
    refine Stp.pure' R k ?_
    cases k
    simp [execOp, ho, hq]

theorem s_bin (R : Rel base r h w) (he : EnvR r e a.tmps) (hnm : ∀ n, nm = some n → n < h.next ∧ r n = none) {op : BinOp} {t u : TypeId} {x y : Operand} {o : Oper} (ho : o.op = .binOp op t x y u) (E : opE (.bin op x y) e h nm = some (v, h2)) : Stp base nm r h w v h2 ((execOp a.eval o).run P w) := by
  simp only [opE] at E
  split at E
  · rename_i p hp
    split at E
    · rename_i q hq
      split at E
      · rename_i z hz; cases E
        obtain ⟨g1, g2, g3⟩ := binV_run (P := P) (w := w) (t := t) (x := x) (y := y) (ev_sound he hp) (ev_sound he hq) hz
        exact Stp.pure' R g3 (by simp [execOp, ho, g1, g2])
      · cases E
    · cases E
  · cases E

theorem s_un (R : Rel base r h w) (he : EnvR r e a.tmps) (hnm : ∀ n, nm = some n → n < h.next ∧ r n = none) {op : UnOp} {t : TypeId} {x : Operand} {o : Oper} (ho : o.op = .unOp op t x) (E : opE (.un op x) e h nm = some (v, h2)) : Stp base nm r h w v h2 ((execOp a.eval o).run P w) := by
  simp only [opE] at E
  split at E
  · rename_i hx; cases E
    have k := VR.bool_inv (ev_sound he hx)
    exact Stp.pure' R (.bool _) (by simp [execOp, ho, k, Op.unary])
  · rename_i hx; cases E
    have k := VR.int_inv (ev_sound he hx)
    exact Stp.pure' R (.int ..) (by simp [execOp, ho, k, Op.unary, Op.intArith])
  · rename_i hx; cases E
    have k := VR.int_inv (ev_sound he hx)
    exact Stp.pure' R (.int ..) (by simp only [execOp, ho, k, Op.unary]; rfl)
  · cases E

theorem s_cvI (R : Rel base r h w) (he : EnvR r e a.tmps) (hnm : ∀ n, nm = some n → n < h.next ∧ r n = none) {k : IntKind} {s d : TypeId} {ds : TypeDesc} {x : Operand} {o : Oper} (ho : o.op = .convert s d x) (h1 : P.underlying s = some ds) (hd : P.underlying d = some (.int k)) (E : opE (.cvI k x) e h nm = some (v, h2)) : Stp base nm r h w v h2 ((execOp a.eval o).run P w) := by
  simp only [opE] at E
  split at E
  · rename_i hx; cases E
    have q := VR.int_inv (ev_sound he hx)
    exact Stp.pure' R (.int ..) (by simp [execOp, ho, q, convert, run_underlying h1, run_underlying hd, Conv.intToInt])
  · cases E
theorem s_cvS (R : Rel base r h w) (he : EnvR r e a.tmps) (hnm : ∀ n, nm = some n → n < h.next ∧ r n = none) {s d : TypeId} {ds : TypeDesc} {x : Operand} {o : Oper} (ho : o.op = .convert s d x) (h1 : P.underlying s = some ds) (hd : P.underlying d = some .string) (E : opE (.cvS x) e h nm = some (v, h2)) : Stp base nm r h w v h2 ((execOp a.eval o).run P w) := by
  simp only [opE] at E
  split at E
  · rename_i hx; cases E
    have q := VR.string_inv (ev_sound he hx)
    exact Stp.pure' R (.string _) (by simp [execOp, ho, q, convert, run_underlying h1, run_underlying hd])
  · cases E
theorem s_mkI (R : Rel base r h w) (he : EnvR r e a.tmps) (hnm : ∀ n, nm = some n → n < h.next ∧ r n = none) {t : TypeId} {d : TypeDesc} {x : Operand} {o : Oper} (ho : o.op = .makeInterface t x) (hd : P.underlying t = some d) (hn : ∀ m, d ≠ .interface m) (E : opE (.mkI t x) e h nm = some (v, h2)) : Stp base nm r h w v h2 ((execOp a.eval o).run P w) := by
  simp only [opE] at E
  split at E
  · rename_i u hx; cases E
    refine Stp.pure' R (.iface t (ev_sound he hx)) ?_
    cases d <;> first | (exact absurd rfl (hn _)) | simp [execOp, ho, Instr.makeInterface, run_underlying hd]
  · cases E
theorem s_mkF (R : Rel base r h w) (he : EnvR r e a.tmps) (hnm : ∀ n, nm = some n → n < h.next ∧ r n = none) {fn : Fn} {x y : Array Operand} {o : Oper} (ho : o.op = .makeFunc fn x y) (E : opE (.mkF fn x.toList y.toList) e h nm = some (v, h2)) : Stp base nm r h w v h2 ((execOp a.eval o).run P w) := by
  simp only [opE] at E
  split at E
  · rename_i l hl
    split at E
    · rename_i m hm; cases E
      have k1 := evs_sound he hl
      have k2 := evs_sound he hm
      refine Stp.pure' R (v' := .func fn (x.map a.eval) (y.map a.eval)) (.func fn (by have := k1.1; simp at this; simpa using this) (fun i v v' q1 q2 => k1.2 i v v' (by simpa using q1) (by simpa using q2)) (by have := k2.1; simp at this; simpa using this) (fun i v v' q1 q2 => k2.2 i v v' (by simpa using q1) (by simpa using q2))) ?_
      simp [execOp, ho, Instr.makeFunc]
    · cases E
  · cases E
theorem s_fa (R : Rel base r h w) (he : EnvR r e a.tmps) (hnm : ∀ n, nm = some n → n < h.next ∧ r n = none) {t : TypeId} {fs : Array Field} {f : Field} {k n : Nat} {x : Operand} {o : Oper} (ho : o.op = .fieldAddr t x k) (ht : P.underlying t = some (.struct fs)) (hf : fs[k]? = some f) (hs : szOf P f.type = some n) (h0 : n ≠ 0) (E : opE (.fa f.offset x) e h nm = some (v, h2)) : Stp base nm r h w v h2 ((execOp a.eval o).run P w) := by
  simp only [opE] at E
  split at E
  · rename_i p hx; cases E
    obtain ⟨i, hi, rfl⟩ := info_of_szOf hs
    have q := ev_sound he hx
    generalize hq : a.eval x = y at q
    cases q with
    | ptr q =>
      rename_i p'
      obtain ⟨g1, L, g2, rfl⟩ := q
      refine Stp.pure' R (v' := .pointer (some ⟨L.b, L.o + (p.off + f.offset), none⟩)) (.ptr ⟨rfl, L, g2, rfl⟩) ?_
      simp [execOp, ho, Instr.fieldAt, run_underlying ht, hf, Instr.sureAddr, hq, fieldPlace, run_sizeOf' hi, h0]
      unfold Addr.add; split
      · rename_i h00; rw [h00]; simp
      · simp [Nat.add_assoc]
  · cases E
theorem s_ext (R : Rel base r h w) (he : EnvR r e a.tmps) (hnm : ∀ n, nm = some n → n < h.next ∧ r n = none) {x : Operand} {k : Nat} {o : Oper} (ho : o.op = .extract x k) (E : opE (.ext x k) e h nm = some (v, h2)) : Stp base nm r h w v h2 ((execOp a.eval o).run P w) := by
  simp only [opE] at E
  split at E
  · rename_i vs hx
    split at E
    · rename_i u hu; cases E
      have q := ev_sound he hx
      generalize hq : a.eval x = y at q
      cases q with
      | tuple hl q =>
        rename_i x'
        have hk : k < x'.size := by rw [← hl]; exact (Array.getElem?_eq_some_iff.1 hu).1
        have := q k _ _ hu (Array.getElem?_eq_getElem hk)
        refine Stp.pure' R this ?_
        simp [execOp, ho, Instr.extract, hq, hk]
    · cases E
  · cases E
end ops
end Go.Proofs.Ytncpdahappmhkaa.Am
