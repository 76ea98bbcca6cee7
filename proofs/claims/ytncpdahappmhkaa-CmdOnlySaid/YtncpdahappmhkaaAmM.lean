/- The abstract machine's code and functions are the model's. -/
import Derived.Test.YtncpdahappmhkaaAmL
namespace Go.Proofs.Ytncpdahappmhkaa.Am
open Go
set_option linter.unusedVariables false
set_option linter.unusedSimpArgs false
variable {P : Program} {base N : Nat} {r0 : Rho} {h0 : H} {w0 : World} {call : CallE} {n : Nat}

def exR : Ex → Exit → Prop
  | .norm, .normal => True
  | .exit i, .exit j => i = j
  | .ret, .ret => True
  | _, _ => False
/-- Where code ends. -/
def CQ (base N : Nat) (r0 : Rho) (h0 : H) (w0 : World) (x : Ex) (e : Env) (h : H) : Exit → Act → World → Prop := fun y a w => exR x y ∧ St base N r0 h0 w0 e h a w

/-- What a region that draws its order comes to. -/
def DrawOK (P : Program) : Prop := ∀ (N : Nat) (ops : Array Oper) (ds : List DI) (ss : List Step), okDraw P N ops ds ss = true → compDI P N ops ds = some ss → ∀ (call : CallE), SoundC P call → ∀ (base : Nat) (r0 : Rho) (h0 : H) (w0 : World) (id : Nat) (e : Env) (h : H) (a : Act) (w : World) (e2 : Env) (h2 : H) (Q : Exit → Act → World → Prop),
  stepsE call h.next ss e (h.up ops.size) = some (e2, h2) → St base N r0 h0 w0 e h a w → (∀ a2 w2, St base N r0 h0 w0 e2 h2 a2 w2 → Q .normal a2 w2) → (Code.region id ops true).wp P Q a w

theorem loop_sound {c : Code} {b : IC} (hbody : ∀ e h a w x e2 h2, codeE call n b e h = some (x, e2, h2) → St base N r0 h0 w0 e h a w → c.wp P (CQ base N r0 h0 w0 x e2 h2) a w) (keep : List Nat) :
    ∀ (m : Nat) (e : Env) (h : H) (a : Act) (w : World) (x : Ex) (e2 : Env) (h2 : H), loopE (codeE call n b) keep m e h = some (x, e2, h2) → St base N r0 h0 w0 e h a w → ∀ (fb : Frame) (k : List Item) (cs : List Frame),
      ∃ y a' w', CQ base N r0 h0 w0 x e2 h2 y a' w' ∧ Arrives P (lone (fb.at a (.code c :: .inLoop c :: k)) cs w) fb k cs y a' w' := by
  intro m
  induction m with
  | zero => intro e h a w x e2 h2 E; cases E
  | succ m ih =>
    intro e h a w x e2 h2 E S fb k cs
    simp only [loopE] at E
    split at E
    · rename_i e1 h1 hb
      obtain ⟨y, a1, w1, ⟨hx, S1⟩, harr⟩ := hbody _ _ _ _ _ _ _ hb (S.norm keep) fb (.inLoop c :: k) cs
      cases y <;> first | (exact hx.elim) | skip
      obtain ⟨y2, a2, w2, hq, harr2⟩ := ih e1 h1 a1 w1 x e2 h2 E S1 fb k cs
      exact ⟨y2, a2, w2, hq, .of_steps (Steps.trans harr (.one step_inLoop)) harr2⟩
    · rename_i x1 e1 h1 hne hb; cases E
      obtain ⟨y, a1, w1, ⟨hx, S1⟩, harr⟩ := hbody _ _ _ _ _ _ _ hb (S.norm keep) fb (.inLoop c :: k) cs
      have hno : y ≠ .normal := fun q => by
        subst q
        cases x with
        | norm => exact hne rfl
        | exit id => exact hx
        | ret => exact hx
      cases y with
      | normal => exact absurd rfl hno
      | exit id => exact ⟨_, a1, w1, ⟨hx, S1⟩, .pass (x := .inLoop c) rfl (fun _ _ => .inl (by simp)) harr⟩
      | goto l => exact ⟨_, a1, w1, ⟨hx, S1⟩, .pass (x := .inLoop c) rfl (fun _ _ => .inl (by simp)) harr⟩
      | ret => exact ⟨_, a1, w1, ⟨hx, S1⟩, .pass (x := .inLoop c) rfl (fun _ _ => .inl (by simp)) harr⟩
      | panic ch => exact ⟨_, a1, w1, ⟨hx, S1⟩, .pass (x := .inLoop c) rfl (fun _ _ => .inl (by simp)) harr⟩
      | outgrown => exact ⟨_, a1, w1, ⟨hx, S1⟩, .pass (x := .inLoop c) rfl (fun _ _ => .inl (by simp)) harr⟩
    · cases E

theorem code_sound (hD : DrawOK P) (hcall : SoundC P call) : ∀ (c : Code) (hs : List Hint) (ic : IC) (hs' : List Hint), comp P N c hs = some (ic, hs') →
    ∀ (e : Env) (h : H) (a : Act) (w : World) (x : Ex) (e2 : Env) (h2 : H), codeE call n ic e h = some (x, e2, h2) → St base N r0 h0 w0 e h a w → c.wp P (CQ base N r0 h0 w0 x e2 h2) a w := by
  intro c
  induction c with
  | skip => intro hs ic hs' hc e h a w x e2 h2 E S; simp only [comp] at hc; cases hc; simp only [codeE] at E; cases E; exact wp_skip ⟨trivial, S⟩
  | ret => intro hs ic hs' hc e h a w x e2 h2 E S; simp only [comp] at hc; cases hc; simp only [codeE] at E; cases E; exact wp_ret ⟨trivial, S⟩
  | exit id => intro hs ic hs' hc e h a w x e2 h2 E S; simp only [comp] at hc; cases hc; simp only [codeE] at E; cases E; exact wp_exit ⟨rfl, S⟩
  | seq c d ihc ihd =>
    intro hs ic hs' hc e h a w x e2 h2 E S
    simp only [comp] at hc
    split at hc
    · rename_i ic1 hs1 hc1
      split at hc
      · rename_i ic2 hs2 hc2; cases hc
        simp only [codeE] at E
        refine wp_seq ?_
        split at E
        · rename_i e1 h1 E1
          refine wp_mono (ihc _ _ _ hc1 _ _ _ _ _ _ _ E1 S) fun y a1 w1 hq => ?_
          obtain ⟨hx, S1⟩ := hq
          cases y <;> first | (exact hx.elim) | skip
          exact ihd _ _ _ hc2 _ _ _ _ _ _ _ E S1
        · rename_i x1 e1 h1 hne E1; cases E
          refine wp_mono (ihc _ _ _ hc1 _ _ _ _ _ _ _ E1 S) fun y a1 w1 hq => ?_
          obtain ⟨hx, S1⟩ := hq
          cases y with
          | normal =>
            cases x with
            | norm => exact (hne rfl).elim
            | exit id => exact hx.elim
            | ret => exact hx.elim
          | _ => exact ⟨hx, S1⟩
        · cases E
      · cases hc
    · cases hc
  | cond o c d ihc ihd =>
    intro hs ic hs' hc e h a w x e2 h2 E S
    simp only [comp] at hc
    split at hc
    · rename_i ic1 hs1 hc1
      split at hc
      · rename_i ic2 hs2 hc2; cases hc
        simp only [codeE] at E
        obtain ⟨⟨r, he, _⟩, _⟩ := id S
        split at E
        · rename_i hv; exact wp_cond_true (VR.bool_inv (ev_sound he hv)) (ihc _ _ _ hc1 _ _ _ _ _ _ _ E S)
        · rename_i hv; exact wp_cond_false (VR.bool_inv (ev_sound he hv)) (ihd _ _ _ hc2 _ _ _ _ _ _ _ E S)
        · cases E
      · cases hc
    · cases hc
  | block id c ihc =>
    intro hs ic hs' hc e h a w x e2 h2 E S
    simp only [comp] at hc
    split at hc
    · rename_i ic1 hs1 hc1; cases hc
      simp only [codeE] at E
      refine wp_block ?_
      split at E
      · rename_i j e1 h1 E1
        refine wp_mono (ihc _ _ _ hc1 _ _ _ _ _ _ _ E1 S) fun y a1 w1 hq => ?_
        obtain ⟨hx, S1⟩ := hq
        cases y <;> first | (exact hx.elim) | skip
        rename_i j'
        simp only [exR] at hx; subst hx
        simp only [Exit.inBlock]
        split at E
        · rename_i hj; cases E; rw [if_pos hj]; exact ⟨trivial, S1⟩
        · rename_i hj; cases E; rw [if_neg hj]; exact ⟨rfl, S1⟩
      · rename_i x1 e1 h1 hne E1; cases E
        refine wp_mono (ihc _ _ _ hc1 _ _ _ _ _ _ _ E1 S) fun y a1 w1 hq => ?_
        obtain ⟨hx, S1⟩ := hq
        cases y with
        | exit j =>
          cases x with
          | norm => exact hx.elim
          | exit i => exact (hne _ rfl).elim
          | ret => exact hx.elim
        | _ => exact ⟨hx, S1⟩
      · cases E
    · cases hc
  | loop c ihc =>
    intro hs ic hs' hc e h a w x e2 h2 E S
    simp only [comp] at hc
    split at hc
    · rename_i l hs0
      split at hc
      · rename_i ic1 hs1 hc1; cases hc
        simp only [codeE] at E
        intro fb k cs
        obtain ⟨y, a', w', hq, harr⟩ := loop_sound (fun e h a w x e2 h2 E S => ihc _ _ _ hc1 e h a w x e2 h2 E S) l n e h a w x e2 h2 E S fb k cs
        exact ⟨y, a', w', hq, .of_steps (.one step_loop) harr⟩
      · cases hc
    · cases hc
  | region id ops d =>
    intro hs ic hs' hc e h a w x e2 h2 E S
    cases d with
    | false =>
      simp only [comp] at hc
      split at hc
      · rename_i l hs0
        split at hc
        · rename_i ss hss; cases hc
          simp only [codeE] at E
          split at E
          · rename_i e1 h1 E1; cases E
            refine wp_region ?_
            have := run_sound (P := P) (ops := ops) (rb := 0) (Q := CQ base N r0 h0 w0 .norm (norm l e1) h2) hcall ops.toList 0 ss (fun j => by simp) (by simp) hss e h a w e1 h2 E1 S (fun a2 w2 S2 => ⟨trivial, S2.norm l⟩)
            rw [List.range_eq_range']; simpa using this
          · cases E
        · cases hc
      · cases hc
    | true =>
      simp only [comp] at hc
      split at hc
      · rename_i ds l hs0
        split at hc
        · rename_i ss hss
          split at hc
          · rename_i hok; cases hc
            simp only [codeE] at E
            split at E
            · rename_i e1 h1 E1; cases E
              exact hD N ops ds ss hok hss call hcall base r0 h0 w0 id e h a w e1 h2 _ E1 S (fun a2 w2 S2 => ⟨trivial, S2.norm l⟩)
            · cases E
          · cases hc
        · cases hc
      · cases hc
  | _ => intro hs ic hs' hc; simp only [comp] at hc; cases hc

theorem look_mkEnv : ∀ (us : List Value) (k t : Nat) (v : Value), look (mkEnv k us) t = some v → k ≤ t ∧ us[t - k]? = some v := by
  intro us
  induction us with
  | nil => intro k t v h; simp [mkEnv, look] at h
  | cons u us ih =>
    intro k t v h
    simp only [mkEnv, look] at h
    split at h
    · rename_i e1; subst e1; cases h; exact ⟨Nat.le_refl _, by simp⟩
    · rename_i e1
      obtain ⟨h1, h2⟩ := ih (k + 1) t v h
      refine ⟨by omega, ?_⟩
      have : t - k = (t - (k + 1)) + 1 := by omega
      rw [this]; simpa using h2

/-- One result. -/
def resOne (tmps : Array Value) : ResultVar → Sem Value
  | .tmp t => pure (tmps.getD t undef)
  | .cell a t => do loadVar t (← asAddr (tmps.getD a undef))
theorem run_loadVar1 {t : TypeId} {d : TypeDesc} (hd : P.underlying t = some d) (hA : isAggB P t = false) {a' : Addr} {v : Value} {w : World} (h : w.cell? a' = some v) : (loadVar t a').run P w = .ok v w := by
  unfold isAggB at hA; rw [hd] at hA
  have : (isAgg t).run P w = .ok false w := by
    unfold isAgg
    cases d <;> first | (simp at hA; done) | simp [run_underlying hd]
  simp [loadVar, this, run_load, h]
theorem run_loadVarN {t : TypeId} {i : TypeInfo} (hi : P.info? t = some i) (hA : isAggB P t = true) {a' : Addr} {vs : List Value} {w : World} (h : (loadCells a' i.size).run P w = .ok vs.toArray w) : (loadVar t a').run P w = .ok (.agg vs.toArray) w := by
  have : (isAgg t).run P w = .ok true w := by
    unfold isAggB at hA; unfold isAgg
    cases hd : P.underlying t with
    | none => rw [hd] at hA; cases hA
    | some d => rw [hd] at hA; cases d <;> first | (simp at hA; done) | simp [run_underlying hd]
  simp [loadVar, this, run_sizeOf' hi, h]
theorem resOne_sound {r : Rho} {h : H} {w : World} {e : Env} {ts : Array Value} (R : Rel base r h w) (he : EnvR r e ts) {x : ResultVar} {y : RV} (hc : compRV P x = some y) {rs : List RV} {vs : List Value} (E : resE (y :: rs) e h = some vs) :
    ∃ v v' us, vs = v :: us ∧ resE rs e h = some us ∧ (resOne ts x).run P w = .ok v' w ∧ VR r v v' := by
  have tmp : ∀ t v, look e t = some v → ∃ v', ts.getD t undef = v' ∧ VR r v v' := fun t v q => by
    obtain ⟨v', q1, q2⟩ := he t v q
    exact ⟨v', by simp [Array.getD_eq_getD_getElem?, q1], q2⟩
  cases x with
  | tmp t =>
    simp only [compRV] at hc; cases hc
    simp only [resE] at E
    split at E
    · rename_i v hv
      split at E
      · rename_i us hus; cases E
        obtain ⟨v', q1, q2⟩ := tmp t v hv
        exact ⟨v, v', us, rfl, hus, by simp [resOne, q1], q2⟩
      · cases E
    · cases E
  | cell t ty =>
    simp only [compRV] at hc
    split at hc <;> (try (cases hc; done)) <;> cases hc <;> simp only [resE] at E
    · rename_i n fs hs ht
      split at E
      · rename_i p hp
        split at E
        · rename_i v hv
          split at E
          · rename_i us hus; cases E
            split at hv
            · rename_i ws hws; cases hv
              obtain ⟨v', q1, q2⟩ := tmp t _ hp
              cases q2 with
              | ptr q2 =>
                obtain ⟨i, hi, rfl⟩ := info_of_szOf hs
                obtain ⟨ws', k1, k2, _⟩ := lds_run (P := P) R (.inr q2) hws
                exact ⟨_, _, us, rfl, hus, by simp only [resOne, q1]; simp [asAddr, run_loadVarN hi (by simp [isAggB, ht]) (k1 w rfl)], VR.ofAgg k2⟩
            · cases hv
          · cases E
        · cases E
      · cases E
    · rename_i n m el hs ht
      split at E
      · rename_i p hp
        split at E
        · rename_i v hv
          split at E
          · rename_i us hus; cases E
            split at hv
            · rename_i ws hws; cases hv
              obtain ⟨v', q1, q2⟩ := tmp t _ hp
              cases q2 with
              | ptr q2 =>
                obtain ⟨i, hi, rfl⟩ := info_of_szOf hs
                obtain ⟨ws', k1, k2, _⟩ := lds_run (P := P) R (.inr q2) hws
                exact ⟨_, _, us, rfl, hus, by simp only [resOne, q1]; simp [asAddr, run_loadVarN hi (by simp [isAggB, ht]) (k1 w rfl)], VR.ofAgg k2⟩
            · cases hv
          · cases E
        · cases E
      · cases E
    · rename_i n d n1 n2 hs ht
      split at E
      · rename_i p hp
        split at E
        · rename_i v hv
          split at E
          · rename_i us hus; cases E
            obtain ⟨v', q1, q2⟩ := tmp t _ hp
            cases q2 with
            | ptr q2 =>
              obtain ⟨u', k1, k2, k3⟩ := ld_run R q2 hv
              refine ⟨v, u', us, rfl, hus, ?_, k2⟩
              have hA : isAggB P ty = false := by
                unfold isAggB; rw [ht]
                cases d <;> first | rfl | (exact absurd rfl (n1 _)) | (exact absurd rfl (n2 _ _))
              simp only [resOne, q1]; simp [asAddr, run_loadVar1 ht hA k1]
          · cases E
        · cases E
      · cases E
theorem res_sound {r : Rho} {h : H} {w : World} {e : Env} {ts : Array Value} (R : Rel base r h w) (he : EnvR r e ts) : ∀ {xs : List ResultVar} {ys : List RV} {vs : List Value}, compRVs P xs = some ys → resE ys e h = some vs →
    ∃ vs', (xs.mapM (resOne ts)).run P w = .ok vs' w ∧ VL r vs vs' := by
  intro xs
  induction xs with
  | nil => intro ys vs hc E; simp only [compRVs] at hc; cases hc; simp only [resE] at E; cases E; exact ⟨[], by simp, VL.nil r⟩
  | cons x xs ih =>
    intro ys vs hc E
    simp only [compRVs] at hc
    split at hc
    · rename_i y hy
      split at hc
      · rename_i ys' hys; cases hc
        obtain ⟨v, v', us, rfl, g1, g2, g3⟩ := resOne_sound R he hy E
        obtain ⟨us', k1, k2⟩ := ih hys g1
        exact ⟨v' :: us', by simp [List.mapM_cons, g2, k1], VL.cons g3 k2⟩
      · cases hc
    · cases hc
theorem results_sound {r : Rho} {h : H} {w : World} {e : Env} {ts : Array Value} (R : Rel base r h w) (he : EnvR r e ts) {fn : Func} {ys : List RV} {vs : List Value} (hc : compRVs P fn.results.toList = some ys) (E : resE ys e h = some vs) :
    ∃ v', (results fn ts).run P w = .ok v' w ∧ VR r (packE vs) v' := by
  obtain ⟨vs', k1, k2⟩ := res_sound R he hc E
  have hm : (fn.results.mapM (resOne ts)).run P w = .ok vs'.toArray w := by
    rw [Array.mapM_eq_mapM_toList]; simp [k1]
  have hr : results fn ts = (do let vs ← fn.results.mapM (resOne ts); pure (if h : vs.size = 1 then vs[0] else .tuple vs)) := by
    unfold results
    congr 1
  rw [hr]
  simp only [Sem.run_bind, hm, Result.andThen_ok, Sem.run_pure]
  refine ⟨_, rfl, ?_⟩
  have hl := k2.1
  unfold packE
  split
  · rename_i v
    match vs', hl with
    | [v'], _ => simp only [List.size_toArray, List.length_cons, List.length_nil, dite_true]; exact k2.2 0 _ _ rfl rfl
  · rename_i hne
    rw [dif_neg (fun q => by
      match vs, hl with
      | [v], _ => exact hne v rfl
      | [], hl => simp at hl q; rw [← hl] at q; simp at q
      | _ :: _ :: _, hl => simp at hl q; omega)]
    exact VR.ofTuple k2

/-- What the table says of a function. -/
def TabOK (P : Program) (tab : Nat → Option FD) : Prop := ∀ f d, tab f = some d → match d with
  | .code F => ∃ hs, compF P f hs = some F
  | .spec g => SoundF P f g

theorem St.refl {r : Rho} {h : H} {w : World} {e : Env} {a : Act} (R : Rel base r h w) (he : EnvR r e a.tmps) (hd : a.defers = []) (hs : a.tmps.size = N) : St base N r h w e h a w :=
  ⟨⟨r, he, R, Fr.refl .., Fsh.refl none r h⟩, hd, hs⟩

theorem fun_sound (hD : DrawOK P) {f : Nat} {hs : List Hint} {F : IFun} (hF : compF P f hs = some F) (hcall : SoundC P call) :
    SoundF P f (fun us h => if us.length = F.np then match codeE call n F.body (mkEnv 0 us) h with
      | some (.norm, e2, h2) => match resE F.rs e2 h2 with
        | some vs => some (packE vs, h2)
        | none => none
      | some (.ret, e2, h2) => match resE F.rs e2 h2 with
        | some vs => some (packE vs, h2)
        | none => none
      | _ => none else none) := by
  intro base r h w us us' v h2 E hv R
  unfold compF at hF
  split at hF
  · rename_i fn hfn
    split at hF
    · rename_i hnm
      split at hF
      · rename_i c hb
        split at hF
        · rename_i ic hcomp
          split at hF
          · rename_i rs hrs; cases hF
            refine ⟨⟨fn, hfn, hnm.1, by simp [hb]⟩, ?_⟩
            simp only at E
            split at E
            · rename_i hlen
              have hl := hv.1
              refine calls_of_wp (c := c) hfn hb ?_
              have S : St base fn.ntmps r h w (mkEnv 0 us) h { tmps := us'.toArray ++ Array.replicate (fn.ntmps - us'.toArray.size) undef, defers := [] } w := by
                refine St.refl R (fun t u hu => ?_) rfl (by simp; omega)
                obtain ⟨_, q⟩ := look_mkEnv us 0 t u hu
                obtain ⟨u', q1, q2⟩ := hv.get q
                refine ⟨u', ?_, q2⟩
                have ht : t < us'.length := by simpa using (List.getElem?_eq_some_iff.1 q1).1
                simp only [Nat.sub_zero] at q1
                rw [Array.getElem?_append_left (by simpa using ht)]; simpa using q1
              have fin : ∀ {x e2 h3 vs}, codeE call n ic (mkEnv 0 us) h = some (x, e2, h3) → (x = .norm ∨ x = .ret) → resE rs e2 h3 = some vs → (packE vs, h3) = (v, h2) →
                  c.wp P (bodyPost P fn (Post base r h w v h2)) { tmps := us'.toArray ++ Array.replicate (fn.ntmps - us'.toArray.size) undef, defers := [] } w := fun {x e2 h3 vs} E1 hx E2 hq => by
                cases hq
                refine wp_mono (code_sound hD hcall c hs ic [] hcomp _ _ _ _ _ _ _ E1 S) fun y a1 w1 hq => ?_
                obtain ⟨hxy, ⟨⟨r1, he1, R1, F1, Fs1⟩, hd1, _⟩⟩ := hq
                obtain ⟨v', g1, g2⟩ := results_sound R1 he1 hrs E2
                have hp : Post base r h w (packE vs) _ (.returned v') w1 := ⟨r1, v', rfl, g2, R1, F1, Fs1⟩
                rcases hx with rfl | rfl <;> cases y <;> first | (exact hxy.elim) | exact ⟨hd1, v', g1, hp⟩
              split at E
              · rename_i e2 h3 E1
                split at E
                · rename_i vs E2; cases E; exact fin E1 (.inl rfl) E2 rfl
                · cases E
              · rename_i e2 h3 E1
                split at E
                · rename_i vs E2; cases E; exact fin E1 (.inr rfl) E2 rfl
                · cases E
              · cases E
            · cases E
          · cases hF
        · cases hF
      · cases hF
    · cases hF
  · cases hF

theorem run_table (hD : DrawOK P) {tab : Nat → Option FD} (ht : TabOK P tab) : ∀ n, SoundC P (runE tab n) := by
  intro n
  induction n with
  | zero => intro f base r h w us us' v h2 E; cases E
  | succ n ih =>
    intro f
    have hf := ht f
    intro base r h w us us' v h2 E hv R
    simp only [runE] at E
    split at E
    · rename_i F hF
      obtain ⟨hs, hc⟩ := hf _ hF
      exact fun_sound (n := n) hD hc ih base r h w us us' v h2 E hv R
    · rename_i g hg
      exact hf _ hg base r h w us us' v h2 E hv R
    · cases E
end Go.Proofs.Ytncpdahappmhkaa.Am
