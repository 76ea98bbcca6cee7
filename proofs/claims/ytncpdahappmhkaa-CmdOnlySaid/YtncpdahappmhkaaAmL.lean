/- The abstract machine's steps and calls are the model's. -/
import Derived.Test.YtncpdahappmhkaaAmK
namespace Go.Proofs.Ytncpdahappmhkaa.Am
open Go
set_option linter.unusedVariables false
set_option linter.unusedSimpArgs false
variable {P : Program} {base : Nat} {r : Rho} {h h2 : H} {w : World} {e : Env} {a : Act} {nm : Option Nat} {v : Value}

/-- What a call comes to. -/
def Post (base : Nat) (r : Rho) (h : H) (w : World) (v : Value) (h2 : H) : Ending → World → Prop := fun x w2 =>
  ∃ r2 v', x = .returned v' ∧ VR r2 v v' ∧ Rel base r2 h2 w2 ∧ Fr base r h w r2 h2 w2 ∧ Fsh none r h r2
def callable (P : Program) (f : Nat) : Prop := ∃ fn, P.funcs[f]? = some fn ∧ (fn.name == "runtime.NumGoroutine") = false ∧ fn.body.isNone = false
def SoundF (P : Program) (f : Nat) (g : List Value → H → Option (Value × H)) : Prop :=
  ∀ (base : Nat) (r : Rho) (h : H) (w : World) (us us' : List Value) (v : Value) (h2 : H), g us h = some (v, h2) → VL r us us' → Rel base r h w → callable P f ∧ Calls P f us'.toArray w (Post base r h w v h2)
def SoundC (P : Program) (call : CallE) : Prop := ∀ f, SoundF P f (call f)

theorem EnvR.put (he : EnvR r e a.tmps) {d : Option Nat} {v v' : Value} (k : VR r v v') (hd : okDst a.tmps.size d = true) : EnvR r (Am.put e d v) (a.put d v').tmps := by
  cases d with
  | none => exact he
  | some d =>
    intro t u hu
    simp only [Am.put, look] at hu
    simp only [okDst, decide_eq_true_eq] at hd
    simp only [Act.put]
    split at hu
    · rename_i e1; subst e1; cases hu
      exact ⟨v', by rw [Array.getElem?_setIfInBounds_self_of_lt hd], k⟩
    · rename_i e1
      obtain ⟨u', q1, q2⟩ := he t u hu
      exact ⟨u', by rw [Array.getElem?_setIfInBounds_ne e1]; exact q1, q2⟩
theorem size_put (a : Act) (d : Option Nat) (v : Value) : (a.put d v).tmps.size = a.tmps.size := by cases d <;> simp [Act.put]
theorem defers_put (a : Act) (d : Option Nat) (v : Value) : (a.put d v).defers = a.defers := by cases d <;> rfl
theorem VR.undef : VR r undef undef := .tuple rfl (fun i v v' a _ => by simp at a)

theorem norm_sound {ts : Array Value} (he : EnvR r e ts) : ∀ (keep : List Nat), EnvR r (norm keep e) ts := by
  intro keep
  induction keep with
  | nil => intro t u hu; simp [norm, look] at hu
  | cons t keep ih =>
    intro t' u hu
    simp only [norm] at hu
    split at hu
    · rename_i v hv
      simp only [look] at hu
      split at hu
      · rename_i e1; subst e1; cases hu; exact he _ _ hv
      · exact ih t' u hu
    · exact ih t' u hu

theorem gd_sound (he : EnvR r e a.tmps) {ops : Array Oper} {o : Oper} {g : Option (Nat × Bool)} {c : Bool} (hg : guardC ops o = some g) (hc : gd e g = some c) : Region.wanted o (yielded ops a.tmps) = c := by
  unfold guardC at hg
  split at hg
  · rename_i hn; cases hg; simp only [gd] at hc; cases hc; simp [Region.wanted, hn]
  · rename_i j b hj
    split at hg
    · rename_i p hp
      split at hg
      · rename_i d hd; cases hg
        simp only [gd] at hc
        split at hc
        · rename_i c' hl; cases hc
          obtain ⟨v', q1, q2⟩ := he _ _ hl
          rw [VR.bool_inv q2] at q1
          simp only [Region.wanted, hj, yielded, hp, Option.bind_some, hd, q1]
          cases c' <;> cases b <;> rfl
        · rename_i x hl; cases hc
          obtain ⟨v', q1, q2⟩ := he _ _ hl
          cases q2
          simp [Region.wanted, hj, yielded, hp, Option.bind_some, hd, q1]
        · cases hc
      · cases hg
    · cases hg

theorem mtab_spec {name : String} {t f : Nat} (h : (t, f) ∈ mtab P name) : ∃ i m el, P.info? t = some i ∧ i.methods.find? (·.name == name) = some m ∧ m.path = #[] ∧ m.func = some (f, true) ∧ P.underlying t = some (.pointer el) := by
  unfold mtab at h
  rw [List.mem_filterMap] at h
  obtain ⟨t', ht', h⟩ := h
  split at h
  · rename_i i hi
    split at h
    · rename_i m hm
      split at h
      · rename_i g hg
        split at h
        · rename_i hp
          split at h
          · rename_i el hel; cases h
            exact ⟨i, m, el, hi, hm, by simpa using hp, hg, hel⟩
          · cases h
        · cases h
      · cases h
    · cases h
  · cases h
theorem findC_mem : ∀ {l : List (Nat × Nat)} {t f : Nat}, findC l t = some f → (t, f) ∈ l := by
  intro l
  induction l with
  | nil => intro t f h; cases h
  | cons p l ih =>
    intro t f h
    obtain ⟨a, b⟩ := p
    simp only [findC] at h
    split at h
    · rename_i e; subst e; cases h; exact List.mem_cons_self ..
    · exact List.mem_cons_of_mem _ (ih h)
theorem fuel_pos (P : Program) : ∃ k, P.types.size + Made.depth = k + 1 := ⟨P.types.size + 99, rfl⟩

/-- An operation of a step. -/
theorem nckC_sound {ops : Array Oper} {i : IOp} {o : Oper} (hc : nckC P ops o.op = some i) (R : Rel base r h w) (he : EnvR r e a.tmps) (hnm : ∀ n, nm = some n → n < h.next ∧ r n = none)
    (E : opE i e h nm = some (v, h2)) : Stp base nm r h w v h2 ((execOp a.eval o).run P w) := by
  unfold nckC at hc
  split at hc
  · rename_i t ho
    split at hc
    · rename_i name hn; cases hc
      simp only [opE] at E
      split at E
      · rename_i m first cap hx
        split at E
        · rename_i em; subst em
          split at E
          · rename_i ty u hf
            split at E
            · rename_i ht; cases E
              have k := ev_sound he hx
              refine Stp.pure' R k ?_
              generalize hq : a.eval (.tmp t) = q at k
              cases k with
              | func _ hx1 h1 hy1 h2 =>
                rename_i first' cap'
                have hlt : 0 < first'.size := by rw [← hx1]; exact (Array.getElem?_eq_some_iff.1 hf).1
                have hv := h1 0 _ _ hf (Array.getElem?_eq_getElem hlt)
                obtain ⟨u', hu'⟩ : ∃ u', first'[0] = .iface ty u' := by
                  generalize first'[0] = z at hv; cases hv; exact ⟨_, rfl⟩
                rw [List.contains_iff_mem, List.mem_map] at ht
                obtain ⟨p, hp, hp2⟩ := ht
                obtain ⟨p1, p2⟩ := p
                simp only at hp2; subst hp2
                obtain ⟨i, mt, el, g1, g2, g3, g4, g5⟩ := mtab_spec hp
                obtain ⟨k, hk⟩ := fuel_pos P
                have hna : (nilAhead (P.types.size + Made.depth) p1 u' m).run P w = .ok (some false) w := by
                  rw [hk]; simp [nilAhead, typeInfo, g1, g2, g3, g4, followBlind]
                have hf' : (first'[0]? : Option Value) = some (.iface p1 u') := by rw [Array.getElem?_eq_getElem hlt, hu']
                simp [execOp, ho, hq, hf', hna]
            · cases E
          · cases E
        · cases E
      · cases E
    · cases hc; exact s_nck R he hnm ho E
  · cases hco : compOp P o.op with
    | none => rw [hco] at hc; cases hc; cases E
    | some j => rw [hco] at hc; cases hc; exact compOp_sound hco R he hnm E

theorem op_wp {o : Oper} {K : Act → World → Prop} {Q : Exit → Act → World → Prop} (s : Stp base nm r h w v h2 ((execOp a.eval o).run P w))
    (k : ∀ r2 w2 v', VR r2 v v' → Rel base r2 h2 w2 → Fr base r h w r2 h2 w2 → Fsh nm r h r2 → K (a.put o.dst v') w2) : o.wp P a w K Q := by
  obtain ⟨r2, w2, v', hres, g1, g2, g3, g4⟩ := s
  unfold Oper.wp
  rcases hres with hres | ⟨hres, rfl⟩
  · rw [hres]; exact k r2 w2 v' g1 g2 g3 g4
  · rw [hres]; exact k r2 w2 undef g1 g2 g3 g4

theorem run_callFunc {f : Nat} (hf : callable P f) (us : Array Value) (w : World) : (callFunc f us).run P w = .ok (.enter f us) w := by
  obtain ⟨fn, h1, h2, h3⟩ := hf
  simp only [callFunc, Sem.run_bind, run_program, Result.andThen_ok, h1, h2, h3, Bool.false_eq_true, if_false]; rfl

theorem VL.ofArr {x x' : Array Value} (hx : x.size = x'.size) (h1 : ∀ (i : Nat) (v v' : Value), x[i]? = some v → x'[i]? = some v' → VR r v v') : VL r x.toList x'.toList :=
  ⟨by simpa using hx, fun i v v' p q => h1 i v v' (by simpa using p) (by simpa using q)⟩
/-- A call of a step. -/
theorem call_sound {c : Call} {o : Oper} {k : CK} (ho : o.op = .call c) (hk : callC P c = some k) (he : EnvR r e a.tmps) {vs us : List Value} {f : Nat} (hv : evs e c.args.toList = some vs) (hw : whom k e vs = some (f, us)) (hf : callable P f) :
    ∃ us', (execOp a.eval o).run P w = .ok (.enter f us'.toArray) w ∧ VL r us us' := by
  have kv := evs_sound he hv
  unfold callC at hk
  split at hk
  · rename_i g hc; cases hk
    simp only [whom] at hw; cases hw
    refine ⟨c.args.toList.map a.eval, ?_, kv⟩
    have e1 : (c.args.toList.map a.eval).toArray = c.args.map a.eval := by apply Array.ext'; simp
    simp [execOp, ho, resolve, hc, Act.eval, Deferred.ofValue, invoke, run_callFunc hf, e1]
  · rename_i x hx hc; cases hk
    simp only [whom] at hw
    split at hw
    · rename_i g first cap hxv; cases hw
      have kx := ev_sound he hxv
      generalize hq : a.eval x = q at kx
      cases kx with
      | func _ hx1 h1 hy1 h2 =>
        rename_i first' cap'
        refine ⟨first'.toList ++ c.args.toList.map a.eval ++ cap'.toList, ?_, ((VL.append (VL.ofArr hx1 h1) kv).append (VL.ofArr hy1 h2))⟩
        have e1 : (first'.toList ++ c.args.toList.map a.eval ++ cap'.toList).toArray = first' ++ c.args.map a.eval ++ cap' := by
          apply Array.ext'; simp
        simp [execOp, ho, resolve, hc, hq, Deferred.ofValue, invoke, run_callFunc hf, e1]
    · cases hw
  · rename_i x name hc; cases hk
    simp only [whom] at hw
    split at hw
    · rename_i t u hxv
      split at hw
      · rename_i g hg; cases hw
        have kx := ev_sound he hxv
        generalize hq : a.eval x = q at kx
        cases kx with
        | iface _ ku =>
          rename_i u'
          obtain ⟨i, m, el, g1, g2, g3, g4, g5⟩ := mtab_spec (findC_mem hg)
          obtain ⟨kk, hkk⟩ := fuel_pos P
          refine ⟨u' :: c.args.toList.map a.eval, ?_, VL.cons ku kv⟩
          have hm : (method (P.types.size + Made.depth) t u' name).run P w = .ok (f, u') w := by
            rw [hkk]; simp [method, typeInfo, g1, g2, g3, g4, follow, receiverAt, run_underlying g5, Place.get]
          have e1 : (u' :: c.args.toList.map a.eval).toArray = #[u'] ++ c.args.map a.eval := by apply Array.ext'; simp
          have e2 : ((#[Value.iface t u'] ++ c.args.map a.eval)[0]? : Option Value) = some (.iface t u') := by rw [Array.getElem?_append_left (by simp)]; rfl
          have e3 : (c.args.map a.eval).extract 0 c.args.size = c.args.map a.eval := by rw [Array.extract_eq_self_of_le (by simp)]
          rw [e1]
          simp only [execOp, ho, resolve, hc, hq, Sem.run_bind, Sem.run_pure, Result.andThen_ok, invoke, e2]
          simp [callMethod, hm, run_callFunc hf, e3]
      · cases hw
    · cases hw
  · cases hk

/-- Where a walk stands. -/
structure St (base N : Nat) (r0 : Rho) (h0 : H) (w0 : World) (e : Env) (h : H) (a : Act) (w : World) : Prop where
  ex : ∃ r, EnvR r e a.tmps ∧ Rel base r h w ∧ Fr base r0 h0 w0 r h w ∧ Fsh none r0 h0 r
  defers : a.defers = []
  size : a.tmps.size = N

theorem Fsh.trans {r0 r1 r2 : Rho} {h0 h1 : H} (x : Fsh none r0 h0 r1) (hn : h0.next ≤ h1.next) (y : Fsh nm r1 h1 r2) (hy : ∀ n, nm = some n → h0.next ≤ n) : Fsh none r0 h0 r2 :=
  fun n h1' _ h3 => y n (by omega) (fun q => by have := hy n q; omega) (x n h1' (by simp) h3)

variable {N : Nat} {r0 : Rho} {h0 : H} {w0 : World} {ops : Array Oper} {call : CallE} {rb : Nat}

/-- One step, as it comes from an operation of the model's. -/
theorem step_core (hcall : SoundC P call) {o : Oper} {s : Step} (hs : compStep P N ops o = some s) {e2 : Env} (E : stepE call rb s e h = some (e2, h2)) (he : EnvR r e a.tmps) (R : Rel base r h w) (hsz : a.tmps.size = N)
    {K : Act → World → Prop} {Q : Exit → Act → World → Prop} (k : ∀ v v' r2 w2, e2 = Am.put e o.dst v → VR r2 v v' → Rel base r2 h2 w2 → Fr base r h w r2 h2 w2 → Fsh none r h r2 → K (a.put o.dst v') w2) :
    if Region.wanted o (yielded ops a.tmps) then o.wp P a w K Q ∨ (o.asks P a w ∧ LetsOut Q) else K (a.put o.dst undef) w := by
  unfold compStep at hs
  split at hs
  · rename_i hdst
    rw [← hsz] at hdst
    split at hs
    · rename_i g hg
      have skip : ∀ {e2 h2}, some (Am.put e o.dst undef, h) = some (e2, h2) → (∀ v v' r2 w2, e2 = Am.put e o.dst v → VR r2 v v' → Rel base r2 h2 w2 → Fr base r h w r2 h2 w2 → Fsh none r h r2 → K (a.put o.dst v') w2) → K (a.put o.dst undef) w := fun {e2 h2} q k => by
        cases q
        exact k _ _ r w rfl .undef R (Fr.refl ..) (Fsh.refl none r h)
      split at hs
      · rename_i c hc
        split at hs
        · rename_i ck hck; cases hs
          have ho : o.op = .call c := by
            unfold isCallO at hc
            split at hc
            · rename_i c' ho
              split at hc
              · cases hc
              · cases hc; exact ho
            · cases hc
          simp only [stepE] at E
          split at E
          · rename_i hgd
            rw [gd_sound he hg hgd, if_pos rfl]
            split at E
            · rename_i vs hvs
              split at E
              · rename_i f us hw
                split at E
                · rename_i v h3 hcl; cases E
                  obtain ⟨us', l1, l2⟩ : ∃ us', (execOp a.eval o).run P w = .ok (.enter f us'.toArray) w ∧ VL r us us' := by
                    -- the callee stands in the program: from its contract at any related arguments
                    have kv := evs_sound he hvs
                    obtain ⟨us0, hus0⟩ : ∃ us0, VL r us us0 := by
                      unfold whom at hw
                      split at hw
                      · cases hw; exact ⟨_, kv⟩
                      · split at hw
                        · rename_i x _ _ _ hxv; cases hw
                          have kx := ev_sound he hxv
                          generalize a.eval _ = q at kx
                          cases kx with
                          | func _ hx1 h1 hy1 h2 =>
                            exact ⟨_, ((VL.append (VL.ofArr hx1 h1) kv).append (VL.ofArr hy1 h2))⟩
                        · cases hw
                      · split at hw
                        · rename_i x _ _ _ hxv
                          split at hw
                          · cases hw
                            have kx := ev_sound he hxv
                            generalize a.eval _ = q at kx
                            cases kx with
                            | iface _ ku => exact ⟨_, VL.cons ku kv⟩
                          · cases hw
                        · cases hw
                    exact call_sound ho hck he hvs hw (hcall f base r h w us us0 v _ hcl hus0 R).1
                  left
                  unfold Oper.wp
                  rw [l1, Oper.upon_enter]
                  refine (hcall f base r h w us us' v _ hcl l2 R).2.mono fun x w2 hp => ?_
                  obtain ⟨r2, v', rfl, m1, m2, m3, m4⟩ := hp
                  exact k _ _ _ _ rfl m1 m2 m3 m4
                · cases E
              · cases E
            · cases E
          · rename_i hgd
            rw [gd_sound he hg hgd, if_neg (by simp)]
            exact skip E k
          · cases E
        · cases hs
      · split at hs
        · rename_i i hi; cases hs
          simp only [stepE] at E
          split at E
          · rename_i hgd
            rw [gd_sound he hg hgd, if_pos rfl]
            split at E
            · rename_i v h3 hop; cases E
              left
              exact op_wp (nckC_sound hi R he (nm := none) (fun n q => by cases q) hop) fun r2 w2 v' m1 m2 m3 m4 => k _ _ _ _ rfl m1 m2 m3 m4
            · cases E
          · rename_i hgd
            rw [gd_sound he hg hgd, if_neg (by simp)]
            exact skip E k
          · cases E
        · cases hs
    · cases hs
  · cases hs
theorem compStep_dst {o : Oper} {s : Step} (hs : compStep P N ops o = some s) : okDst N o.dst = true := by
  unfold compStep at hs
  split at hs
  · assumption
  · cases hs
theorem step_sound (hcall : SoundC P call) {o : Oper} {s : Step} (hs : compStep P N ops o = some s) {e2 : Env} (E : stepE call rb s e h = some (e2, h2)) (S : St base N r0 h0 w0 e h a w)
    {K : Act → World → Prop} {Q : Exit → Act → World → Prop} (k : ∀ a2 w2, St base N r0 h0 w0 e2 h2 a2 w2 → K a2 w2) :
    if Region.wanted o (yielded ops a.tmps) then o.wp P a w K Q ∨ (o.asks P a w ∧ LetsOut Q) else K (a.put o.dst undef) w := by
  obtain ⟨⟨r, he, R, F, Fs⟩, hd, hsz⟩ := S
  have hdst := compStep_dst hs
  rw [← hsz] at hdst
  refine step_core hcall hs E he R hsz fun v v' r2 w2 he2 m1 m2 m3 m4 => ?_
  subst he2
  exact k _ _ ⟨⟨r2, (he.mono m3.le).put m1 hdst, m2, F.trans m3, Fs.trans F.next m4 (fun n q => by cases q)⟩, by rw [defers_put]; exact hd, by rw [size_put]; exact hsz⟩

/-- A region that does not draw. -/
theorem run_sound (hcall : SoundC P call) {Q : Exit → Act → World → Prop} : ∀ (os : List Oper) (k : Nat) (ss : List Step), (∀ j, os[j]? = ops[k + j]?) → k + os.length = ops.size → compSteps P N ops os = some ss →
    ∀ (e : Env) (h : H) (a : Act) (w : World) (e2 : Env) (h2 : H), stepsE call rb ss e h = some (e2, h2) → St base N r0 h0 w0 e h a w → (∀ a2 w2, St base N r0 h0 w0 e2 h2 a2 w2 → Q .normal a2 w2) → wpOps P ops Q (List.range' k os.length) a w := by
  intro os
  induction os with
  | nil => intro k ss _ _ hc e h a w e2 h2 E S q; simp only [compSteps] at hc; cases hc; simp only [stepsE] at E; cases E; exact q _ _ S
  | cons o os ih =>
    intro k ss hj hk hc e h a w e2 h2 E S q
    simp only [compSteps] at hc
    split at hc
    · rename_i s hs
      split at hc
      · rename_i ss' hss; cases hc
        simp only [stepsE] at E
        split at E
        · rename_i e1 h1 hst
          have ho : ops[k]? = some o := by have := hj 0; simpa using this.symm
          simp only [List.length_cons, List.range'_succ, wpOps, ho]
          exact step_sound hcall hs hst S fun a2 w2 S2 => ih (k + 1) ss' (fun j => by have := hj (j + 1); simpa [Nat.add_assoc, Nat.add_comm 1 j] using this) (by simp only [List.length_cons] at hk; omega) hss e1 h1 a2 w2 e2 h2 E S2 q
        · cases E
      · cases hc
    · cases hc
theorem St.norm (S : St base N r0 h0 w0 e h a w) (keep : List Nat) : St base N r0 h0 w0 (Am.norm keep e) h a w := by
  obtain ⟨⟨r, he, R, F, Fs⟩, hd, hsz⟩ := S
  exact ⟨⟨r, norm_sound he keep, R, F, Fs⟩, hd, hsz⟩
end Go.Proofs.Ytncpdahappmhkaa.Am
