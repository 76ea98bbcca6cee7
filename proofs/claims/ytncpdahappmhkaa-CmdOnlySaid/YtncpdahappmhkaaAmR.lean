/- A region that draws its order: one operation, wherever it comes. -/
import Derived.Test.YtncpdahappmhkaaAmQ
namespace Go.Proofs.Ytncpdahappmhkaa.Am
open Go
set_option linter.unusedVariables false
set_option linter.unusedSimpArgs false
variable {P : Program} {N : Nat} {ops : Array Oper} {call : CallE} {rb : Nat} {its : List It} {sig : Nat → Env × H} {S : Nat → Bool} {base : Nat} {r0 : Rho} {h0 : H} {w0 : World}

theorem wp_const {X : Prop} {o : Oper} {a : Act} {w : World} (h : if Region.wanted o (yielded ops a.tmps) then o.wp P a w (fun _ _ => X) (fun _ _ _ => False) ∨ (o.asks P a w ∧ LetsOut (fun _ _ _ => False)) else X) : X := by
  split at h
  · rcases h with h | ⟨_, _, _, h⟩
    · unfold Oper.wp at h
      generalize (execOp a.eval o).run P w = res at h
      cases res with
      | ok n w' =>
        cases n <;> simp only [Oper.upon] at h <;> try (first | exact h | exact h.elim)
        case enter f args =>
          obtain ⟨e, w2, fr, hR, _⟩ := h []
          cases e with
          | returned v => exact hR
          | panicked c => exact hR.elim
          | outgrown => obtain ⟨_, _, q⟩ := hR; exact q.elim
        case row row args =>
          obtain ⟨v, w2, hR, _⟩ := h default []
          exact hR
      | halt x w' => cases x <;> simp only [Oper.upon] at h
    · exact h.elim
  · exact h

theorem step_exists (hcall : SoundC P call) {r : Rho} {e e2 : Env} {h h2 : H} {a : Act} {w : World} {o : Oper} {s : Step} (hs : compStep P N ops o = some s) (E : stepE call rb s e h = some (e2, h2)) (he : EnvR r e a.tmps) (R : Rel base r h w) (hsz : a.tmps.size = N) :
    ∃ v v' r2 w2, e2 = put e o.dst v ∧ VR r2 v v' ∧ Rel base r2 h2 w2 ∧ Fr base r h w r2 h2 w2 ∧ Fsh none r h r2 :=
  wp_const (P := P) (ops := ops) (o := o) (a := a) (w := w) (step_core hcall hs E he R hsz fun v v' r2 w2 h1 h2 h3 h4 h5 => ⟨v, v', r2, w2, h1, h2, h3, h4, h5⟩)

theorem compStep_op {o : Oper} {d : Option Nat} {g : Option (Nat × Bool)} {j : IOp} (h : compStep P N ops o = some (.op d g j)) : d = o.dst ∧ guardC ops o = some g ∧ nckC P ops o.op = some j := by
  unfold compStep at h
  split at h
  · split at h
    · rename_i g' hg
      split at h
      · split at h
        · cases h
        · cases h
      · split at h
        · rename_i i hi; cases h; exact ⟨rfl, hg, hi⟩
        · cases h
    · cases h
  · cases h

/-- The canonical order has a world. -/
def Wit (base N rb : Nat) (ops : Array Oper) (its : List It) (sig : Nat → Env × H) (k : Nat) : Prop := ∃ (r : Rho) (a : Act) (w : World), EnvR r (sig k).1 a.tmps ∧ a.tmps.size = N ∧ Rel base r (sig k).2 w ∧ rb + ops.size ≤ (sig k).2.next ∧
  ∀ (p : Nat) (x : It), k ≤ p → its[p]? = some x → x.k = 2 → r (rb + x.i) = none

theorem Dr.lt (D : Dr P N ops call rb its sig) {k : Nat} {x : It} (h : its[k]? = some x) : x.i < ops.size := by
  have := D.it k x h
  simp only [itemOK, Bool.and_eq_true, decide_eq_true_eq] at this
  exact this.1.1

theorem wit (D : Dr P N ops call rb its sig) (hcall : SoundC P call) (h0 : Wit base N rb ops its sig 0) : ∀ k, k ≤ its.length → Wit base N rb ops its sig k := by
  intro k
  induction k with
  | zero => intro _; exact h0
  | succ k ih =>
    intro hk
    obtain ⟨r, a, w, he, hsz, R, hn, hp⟩ := ih (by omega)
    have hx : its[k]? = some its[k] := List.getElem?_eq_getElem (by omega)
    generalize its[k] = x at hx
    by_cases h5 : x.k = 5
    · unfold Wit; rw [D.chk hx h5]; exact ⟨r, a, w, he, hsz, R, hn, fun p y q => hp p y (by omega)⟩
    · obtain ⟨g1, _⟩ := D.env hx h5
      obtain ⟨o, ho, hcase⟩ := D.sp k x hx
      have E := D.st k x hx
      have fin : ∀ {r2 : Rho} {w2 : World} {v v' : Value}, (sig (k + 1)).1 = put (sig k).1 o.dst v → okDst N o.dst = true → r.le r2 → VR r2 v v' → Rel base r2 (sig (k + 1)).2 w2 → (sig k).2.next ≤ (sig (k + 1)).2.next → (∀ (p : Nat) (y : It), k + 1 ≤ p → its[p]? = some y → y.k = 2 → r2 (rb + y.i) = none) → Wit base N rb ops its sig (k + 1) :=
        fun {r2 w2 v v'} q1 q2 q3 q4 q5 q6 q7 => by
          refine ⟨r2, a.put o.dst v', w2, ?_, by rw [size_put]; exact hsz, q5, by omega, q7⟩
          rw [q1]; exact (he.mono q3).put q4 (by rw [hsz]; exact q2)
      have pend : ∀ {r2 : Rho}, Fsh none r (sig k).2 r2 → ∀ (p : Nat) (y : It), k + 1 ≤ p → its[p]? = some y → y.k = 2 → r2 (rb + y.i) = none := fun {r2} f p y q1 q2 q3 =>
        f _ (by have := D.lt q2; omega) (by simp) (hp p y (by omega) q2 q3)
      have plain : compStep P N ops o = some x.s → Wit base N rb ops its sig (k + 1) := fun hs => by
        obtain ⟨v, v', r2, w2, m1, m2, m3, m4, m5⟩ := step_exists hcall hs E he R hsz
        exact fin m1 (compStep_dst hs) m4.le m2 m3 m4.next (pend m5)
      rcases hcase with ⟨_, hs, _⟩ | ⟨_, d, g, j, hs, _⟩ | ⟨h2, d, g, j, hs, hxs, hj⟩ | ⟨h4, d, g, j, hs, hxs, hj⟩ | ⟨q, _⟩
      · exact plain hs
      · exact plain hs
      · obtain ⟨rfl, hg, hnc⟩ := compStep_op hs
        rw [hxs] at E
        simp only [stepE] at E
        split at E
        · split at E
          · rename_i v h3 hop
            have e1 := Option.some.inj E
            obtain ⟨r2, w2, v', _, m2, m3, m4, m5⟩ := nckC_sound hnc R he (nm := some (rb + x.i)) (fun n q => by cases q; exact ⟨by have := D.lt hx; omega, hp k x (Nat.le_refl _) hx h2⟩) hop
            refine fin (v := v) (v' := v') (by rw [← e1]) (compStep_dst hs) m4.le m2 (by rw [← e1]; exact m3) (by rw [← e1]; exact m4.next) (fun p y q1 q2 q3 => ?_)
            refine m5 _ (by have := D.lt q2; omega) (fun q => ?_) (hp p y (by omega) q2 q3)
            have he0 : x.i = y.i := by have := Option.some.inj q; omega
            have := D.uniq hx q2 h5 (by omega) he0
            omega
          · cases E
        · have e1 := Option.some.inj E
          exact fin (r2 := r) (w2 := w) (v := undef) (v' := undef) (by rw [← e1]) (compStep_dst hs) (Rho.le_refl r) .undef (by rw [← e1]; exact R) (by rw [← e1]; exact Nat.le_refl _) (fun p y q1 q2 q3 => hp p y (by omega) q2 q3)
        · cases E
      · obtain ⟨rfl, hg, hnc⟩ := compStep_op hs
        rw [hxs] at E
        simp only [stepE] at E
        split at E
        · split at E
          · split at E
            · split at E
              · rename_i v h3 hop
                have e1 := Option.some.inj E
                obtain ⟨r2, w2, v', _, m2, m3, m4, m5⟩ := nckC_sound hnc R he (nm := none) (fun n q => by cases q) hop
                have e2 := (opE_k1 hj hop).1
                subst e2
                exact fin (v := v) (v' := v') (by rw [← e1]) (compStep_dst hs) m4.le m2 (by rw [← e1]; exact m3) (by rw [← e1]; exact m4.next) (pend m5)
              · cases E
            · cases E
          · cases E
        · have e1 := Option.some.inj E
          exact fin (r2 := r) (w2 := w) (v := undef) (v' := undef) (by rw [← e1]) (compStep_dst hs) (Rho.le_refl r) .undef (by rw [← e1]; exact R) (by rw [← e1]; exact Nat.le_refl _) (fun p y q1 q2 q3 => hp p y (by omega) q2 q3)
        · cases E
      · exact absurd q h5

theorem Wit.none {k : Nat} (W : Wit base N rb ops its sig k) {p : Nat} {x : It} (hp : k ≤ p) (hx : its[p]? = some x) (h2 : x.k = 2) : (sig k).2.get (rb + x.i) = none := by
  obtain ⟨r, a, w, _, _, R, _, q⟩ := W
  cases hg : (sig k).2.get (rb + x.i) with
  | none => rfl
  | some B => obtain ⟨L, _, _, _, g, _⟩ := R.cells _ B hg; rw [q p x hp hx h2] at g; cases g

/-- Where the walk stands when the operations in S are done. -/
structure Inv (P : Program) (N rb : Nat) (ops : Array Oper) (its : List It) (sig : Nat → Env × H) (base : Nat) (r0 : Rho) (h0 : H) (w0 : World) (S : Nat → Bool) (r : Rho) (a : Act) (w : World) : Prop where
  env : EnvR r (ES its sig S its.length) a.tmps
  rel : Rel base r (HS its sig rb S its.length) w
  fr : Fr base r0 h0 w0 r (HS its sig rb S its.length) w
  fsh : Fsh none r0 h0 r
  pend : ∀ (k : Nat) (x : It), its[k]? = some x → x.k = 2 → S x.i = false → r (rb + x.i) = none
  defers : a.defers = []
  size : a.tmps.size = N
  next : rb + ops.size ≤ (HS its sig rb S its.length).next

theorem look_norm {e : Env} : ∀ {l : List Nat} {t : Nat}, t ∈ l → look (norm l e) t = look e t := by
  intro l
  induction l with
  | nil => intro t h; cases h
  | cons u l ih =>
    intro t h
    simp only [norm]
    by_cases hut : u = t
    · subst hut
      split
      · rename_i v hv; simp [look, hv]
      · rename_i hv
        rw [hv]
        by_cases hm : u ∈ l
        · rw [ih hm, hv]
        · have : ∀ (l : List Nat), u ∉ l → look (norm l e) u = none := by
            intro l
            induction l with
            | nil => intro _; rfl
            | cons z l ih =>
              intro hz
              simp only [norm]
              split
              · simp only [look]; rw [if_neg (fun q => hz (by simp [q]))]; exact ih (fun q => hz (List.mem_cons_of_mem _ q))
              · exact ih (fun q => hz (List.mem_cons_of_mem _ q))
          exact this l hm
    · have hm : t ∈ l := by
        rcases List.mem_cons.1 h with q | q
        · exact absurd q.symm hut
        · exact q
      split
      · simp only [look]; rw [if_neg hut]; exact ih hm
      · exact ih hm

theorem Rel.congr {r : Rho} {h h' : H} {w : World} (R : Rel base r h w) (hg : ∀ n, h'.get n = h.get n) (hn : h'.next = h.next) : Rel base r h' w :=
  R.sub (fun n B e => by rw [← hg]; exact e) (by omega)
theorem Fr.congr {r0 r : Rho} {h0 h h' : H} {w0 w : World} (F : Fr base r0 h0 w0 r h w) (hg : ∀ n, h'.get n = h.get n) (hn : h'.next = h.next) : Fr base r0 h0 w0 r h' w :=
  ⟨F.le, by rw [hn]; exact F.next, F.size, F.os, F.tape, F.output, F.keep, fun n B L e => F.cov n B L (by rw [← hg]; exact e)⟩

theorem env_new (D : Dr P N ops call rb its sig) (hC : Cl ops S) {k : Nat} {x : It} (hk : its[k]? = some x) (hx : x.k ≠ 5) (hS : S x.i = false) {r r2 : Rho} {a : Act} (he : EnvR r (ES its sig S its.length) a.tmps) (hle : r.le r2) {o : Oper} (hd : dS x.s = o.dst)
    (hok : okDst a.tmps.size o.dst = true) {v' : Value} (hv : ∀ d, o.dst = some d → VR r2 (valOf sig k) v') : EnvR r2 (ES its sig (plus S x.i) its.length) (a.put o.dst v').tmps := by
  intro t u hu
  rw [ES_plus D hC hk hx hS t, hd] at hu
  split at hu
  · rename_i hdt; cases hu
    rw [hdt] at hok
    simp only [okDst, decide_eq_true_eq] at hok
    refine ⟨v', ?_, hv t hdt⟩
    simp only [hdt, Act.put]; rw [Array.getElem?_setIfInBounds_self_of_lt hok]
  · rename_i hdt
    obtain ⟨u', q1, q2⟩ := he t u hu
    refine ⟨u', ?_, q2.mono hle⟩
    cases hod : o.dst with
    | none => exact q1
    | some d =>
      simp only [Act.put]
      rw [Array.getElem?_setIfInBounds_ne (fun q => hdt (by rw [hod, q]))]; exact q1
end Go.Proofs.Ytncpdahappmhkaa.Am
