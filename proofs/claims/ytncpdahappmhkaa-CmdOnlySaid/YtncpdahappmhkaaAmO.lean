/- A region that draws its order comes, in whatever order, to what its canonical order comes to: the abstract side. -/
import Derived.Test.YtncpdahappmhkaaAmN
namespace Go.Proofs.Ytncpdahappmhkaa.Am
open Go
set_option linter.unusedVariables false
set_option linter.unusedSimpArgs false
variable {P : Program} {N : Nat} {ops : Array Oper} {call : CallE} {rb : Nat}

theorem sig_of : ∀ (ss : List Step) (e : Env) (h : H) (e2 : Env) (h2 : H), stepsE call rb ss e h = some (e2, h2) → ∃ sig : Nat → Env × H, sig 0 = (e, h) ∧ sig ss.length = (e2, h2) ∧ ∀ k s, ss[k]? = some s → stepE call rb s (sig k).1 (sig k).2 = some (sig (k + 1)) := by
  intro ss
  induction ss with
  | nil => intro e h e2 h2 E; simp only [stepsE] at E; cases E; exact ⟨fun _ => (e, h), rfl, rfl, fun k s q => by simp at q⟩
  | cons s ss ih =>
    intro e h e2 h2 E
    simp only [stepsE] at E
    split at E
    · rename_i e1 h1 hs
      obtain ⟨sig, g1, g2, g3⟩ := ih e1 h1 e2 h2 E
      refine ⟨fun k => match k with | 0 => (e, h) | k + 1 => sig k, rfl, by simpa using g2, fun k u q => ?_⟩
      cases k with
      | zero => simp at q; subst q; simp only [g1]; exact hs
      | succ k => simp at q; exact g3 k u q
    · cases E

def Sp (P : Program) (N : Nat) (ops : Array Oper) (x : It) : Prop := ∃ o, ops[x.i]? = some o ∧
  ((x.k = 3 ∧ compStep P N ops o = some x.s ∧ ∀ d g i, x.s ≠ .chk d g i) ∨ ((x.k = 0 ∨ x.k = 1) ∧ ∃ d g j, compStep P N ops o = some x.s ∧ x.s = .op d g j ∧ kI j = x.k) ∨
   (x.k = 2 ∧ ∃ d g j, compStep P N ops o = some (.op d g j) ∧ x.s = .opA d g j x.i ∧ kI j = 2) ∨ (x.k = 4 ∧ ∃ d g j, compStep P N ops o = some (.op d g j) ∧ x.s = .opR d g j x.q ∧ kI j = 1) ∨
   (x.k = 5 ∧ ∃ d g j, compStep P N ops o = some (.op (some d) g j) ∧ x.s = .chk d g j))

theorem kI_cases (j : IOp) : kI j = 0 ∨ kI j = 1 ∨ kI j = 2 ∨ kI j = 3 := by cases j <;> simp [kI]
theorem compStep_form {o : Oper} {s : Step} (h : compStep P N ops o = some s) : dS s = o.dst ∧ ((∃ d g i, s = .op d g i) ∨ ∃ d g c xs, s = .call d g c xs) := by
  unfold compStep at h
  split at h
  · split at h
    · split at h
      · split at h
        · cases h; exact ⟨rfl, .inr ⟨_, _, _, _, rfl⟩⟩
        · cases h
      · split at h
        · cases h; exact ⟨rfl, .inl ⟨_, _, _, rfl⟩⟩
        · cases h
    · cases h
  · cases h
def DSp (P : Program) (N : Nat) (ops : Array Oper) (d : DI) (s : Step) : Prop := match d with
  | .op i => ∃ o, ops[i]? = some o ∧ compStep P N ops o = some s
  | .opA i => ∃ o d g j, ops[i]? = some o ∧ compStep P N ops o = some (.op d g j) ∧ s = .opA d g j i
  | .opR i k => ∃ o d g j, ops[i]? = some o ∧ compStep P N ops o = some (.op d g j) ∧ s = .opR d g j k
  | .chk i => ∃ o d g j, ops[i]? = some o ∧ compStep P N ops o = some (.op (some d) g j) ∧ s = .chk d g j
theorem sp_of {d : DI} {s : Step} {x : It} (hx : itOf d s = some x)
    (hd : DSp P N ops d s) : Sp P N ops x ∧ x.s = s := by
  cases d with
  | op i =>
    obtain ⟨o, h1, h2⟩ := hd
    rcases (compStep_form h2).2 with ⟨d, g, j, rfl⟩ | ⟨d, g, c, xs, rfl⟩
    · simp only [itOf] at hx
      split at hx
      · cases hx
      · rename_i hk; cases hx
        rcases kI_cases j with q | q | q | q
        · exact ⟨⟨o, h1, .inr (.inl ⟨.inl q, d, g, j, h2, rfl, rfl⟩)⟩, rfl⟩
        · exact ⟨⟨o, h1, .inr (.inl ⟨.inr q, d, g, j, h2, rfl, rfl⟩)⟩, rfl⟩
        · exact absurd q hk
        · exact ⟨⟨o, h1, .inl ⟨q, h2, fun _ _ _ q => by cases q⟩⟩, rfl⟩
    · simp only [itOf] at hx; cases hx; exact ⟨⟨o, h1, .inl ⟨rfl, h2, fun _ _ _ q => by cases q⟩⟩, rfl⟩
  | opA i =>
    obtain ⟨o, d, g, j, h1, h2, rfl⟩ := hd
    simp only [itOf] at hx
    split at hx
    · rename_i hk; cases hx; exact ⟨⟨o, h1, .inr (.inr (.inl ⟨rfl, d, g, j, h2, rfl, hk⟩))⟩, rfl⟩
    · cases hx
  | opR i q =>
    obtain ⟨o, d, g, j, h1, h2, rfl⟩ := hd
    simp only [itOf] at hx
    split at hx
    · rename_i hk; cases hx; exact ⟨⟨o, h1, .inr (.inr (.inr (.inl ⟨rfl, d, g, j, h2, rfl, hk⟩)))⟩, rfl⟩
    · cases hx
  | chk i =>
    obtain ⟨o, d, g, j, h1, h2, rfl⟩ := hd
    simp only [itOf] at hx; cases hx; exact ⟨⟨o, h1, .inr (.inr (.inr (.inr ⟨rfl, d, g, j, h2, rfl⟩)))⟩, rfl⟩

theorem its_spec : ∀ (ds : List DI) (ss : List Step) (its : List It), compDI P N ops ds = some ss → itsOf ds ss = some its → its.length = ss.length ∧ ∀ (k : Nat) (x : It), its[k]? = some x → Sp P N ops x ∧ ss[k]? = some x.s := by
  intro ds
  induction ds with
  | nil => intro ss its hc hi; simp only [compDI] at hc; cases hc; simp only [itsOf] at hi; cases hi; exact ⟨rfl, fun k x q => by simp at q⟩
  | cons d ds ih =>
    intro ss its hc hi
    simp only [compDI] at hc
    split at hc
    · cases hc
    · rename_i ss' hss
      have key : ∀ s, ss = s :: ss' → DSp P N ops d s → its.length = ss.length ∧ ∀ (k : Nat) (x : It), its[k]? = some x → Sp P N ops x ∧ ss[k]? = some x.s := by
        intro s hs hd
        subst hs
        simp only [itsOf] at hi
        split at hi
        · rename_i x hx
          split at hi
          · rename_i xs hxs; cases hi
            obtain ⟨g1, g2⟩ := ih ss' xs hss hxs
            obtain ⟨m1, m2⟩ := sp_of hx hd
            refine ⟨by simp [g1], fun k y q => ?_⟩
            cases k with
            | zero => simp at q; subst q; exact ⟨m1, by simp [m2]⟩
            | succ k => simp at q; simpa using g2 k y q
          · cases hi
        · cases hi
      cases d with
      | op i =>
        simp only at hc
        split at hc
        · rename_i o ho
          split at hc
          · rename_i s hs; cases hc; exact key s rfl ⟨o, ho, hs⟩
          · cases hc
        · cases hc
      | opA i =>
        simp only at hc
        split at hc
        · rename_i o ho
          split at hc
          · rename_i d g j hs; cases hc; exact key _ rfl ⟨o, d, g, j, ho, hs, rfl⟩
          · cases hc
        · cases hc
      | opR i q =>
        simp only at hc
        split at hc
        · rename_i o ho
          split at hc
          · rename_i d g j hs; cases hc; exact key _ rfl ⟨o, d, g, j, ho, hs, rfl⟩
          · cases hc
        · cases hc
      | chk i =>
        simp only at hc
        split at hc
        · rename_i o ho
          split at hc
          · rename_i d g j hs; cases hc; exact key _ rfl ⟨o, d, g, j, ho, hs, rfl⟩
          · cases hc
        · cases hc

theorem pairs_spec {b : Array Nat} : ∀ {its : List It}, pairsOK b its = true → ∀ (k1 k2 : Nat) (x y : It), k1 < k2 → its[k1]? = some x → its[k2]? = some y → pairOK b x y = true := by
  intro its
  induction its with
  | nil => intro _ k1 k2 x y _ h; simp at h
  | cons z zs ih =>
    intro h k1 k2 x y hlt h1 h2
    simp only [pairsOK, Bool.and_eq_true, List.all_eq_true] at h
    obtain ⟨k2, rfl⟩ : ∃ m, k2 = m + 1 := ⟨k2 - 1, by omega⟩
    simp at h2
    cases k1 with
    | zero => simp at h1; subst h1; exact h.1 y (List.mem_of_getElem? h2)
    | succ k1 => simp at h1; exact ih h.2 k1 k2 x y (by omega) h1 h2
theorem chkIn_spec : ∀ {its : List It} {i : Nat}, chkIn i its = true → ∃ (k : Nat) (z : It), its[k]? = some z ∧ z.k = 5 ∧ z.i = i ∧ ∀ (m : Nat) (u : It), m < k → its[m]? = some u → u.k = 5 := by
  intro its
  induction its with
  | nil => intro i h; cases h
  | cons y ys ih =>
    intro i h
    simp only [chkIn, Bool.and_eq_true, Bool.or_eq_true, beq_iff_eq] at h
    obtain ⟨h1, h2⟩ := h
    rcases h2 with h2 | h2
    · exact ⟨0, y, rfl, h1, h2, fun m u hm => by omega⟩
    · obtain ⟨k, z, g1, g2, g3, g4⟩ := ih h2
      refine ⟨k + 1, z, by simpa using g1, g2, g3, fun m u hm q => ?_⟩
      cases m with
      | zero => simp at q; subst q; exact h1
      | succ m => simp at q; exact g4 m u (by omega) q
theorem chks_spec {b : Array Nat} : ∀ {its pre : List It}, chksOK b pre its = true → ∀ (k2 : Nat) (x y : It), (x ∈ pre ∨ ∃ k1, k1 < k2 ∧ its[k1]? = some x) → its[k2]? = some y → x.k = 1 → y.k = 3 → isBef b x.i y.i = false →
    ∃ (k3 : Nat) (z : It), k2 < k3 ∧ its[k3]? = some z ∧ z.k = 5 ∧ z.i = x.i ∧ ∀ (m : Nat) (u : It), k2 < m → m < k3 → its[m]? = some u → u.k = 5 := by
  intro its
  induction its with
  | nil => intro pre _ k2 x y _ h; simp at h
  | cons z zs ih =>
    intro pre h k2 x y hx hy hx1 hy3 hb
    simp only [chksOK, Bool.and_eq_true] at h
    cases k2 with
    | zero =>
      simp at hy; subst hy
      have hmem : x ∈ pre := by
        rcases hx with hx | ⟨k1, q, _⟩
        · exact hx
        · omega
      have h1 := h.1
      simp only [hy3, Bool.or_eq_true, List.all_eq_true] at h1
      rcases h1 with h1 | h1
      · simp at h1
      · have := h1 x hmem
        simp only [hx1, hb] at this
        obtain ⟨k, u, g1, g2, g3, g4⟩ := chkIn_spec (by simpa using this)
        refine ⟨k + 1, u, by omega, by simpa using g1, g2, g3, fun m v q1 q2 q3 => ?_⟩
        obtain ⟨m, rfl⟩ : ∃ m', m = m' + 1 := ⟨m - 1, by omega⟩
        simp at q3; exact g4 m v (by omega) q3
    | succ k2 =>
      simp at hy
      obtain ⟨k3, u, g1, g2, g3, g4, g5⟩ := ih h.2 k2 x y (by
        rcases hx with hx | ⟨k1, q1, q2⟩
        · exact .inl (List.mem_cons_of_mem _ hx)
        · cases k1 with
          | zero => simp at q2; subst q2; exact .inl (List.mem_cons_self ..)
          | succ k1 => simp at q2; exact .inr ⟨k1, by omega, q2⟩) hy hx1 hy3 hb
      refine ⟨k3 + 1, u, by omega, by simpa using g2, g3, g4, fun m v q1 q2 q3 => ?_⟩
      obtain ⟨m, rfl⟩ : ∃ m', m = m' + 1 := ⟨m - 1, by omega⟩
      simp at q3; exact g5 m v (by omega) (by omega) q3

/-- A set of operations that holds with each one what stands before it. -/
def Cl (ops : Array Oper) (S : Nat → Bool) : Prop := ∀ i o, S i = true → ops[i]? = some o → ∀ e ∈ o.after, Region.binds .any e = true → S e.on = true
theorem bef_fold {S : Nat → Bool} (l : List Edge) (acc : Array Nat) : ∀ (s : Nat), (∀ j, s.testBit j = true → S j = true) → (∀ e ∈ l, Region.binds .any e = true → S e.on = true ∧ ∀ j, (acc.getD e.on 0).testBit j = true → S j = true) →
    ∀ j, (l.foldl (fun s e => if Region.binds .any e then s ||| 2 ^ e.on ||| acc.getD e.on 0 else s) s).testBit j = true → S j = true := by
  induction l with
  | nil => intro s h1 _ j hj; exact h1 j hj
  | cons e l ih =>
    intro s h1 h2 j hj
    simp only [List.foldl_cons] at hj
    refine ih _ (fun j hj => ?_) (fun e' he' => h2 e' (List.mem_cons_of_mem _ he')) j hj
    split at hj
    · rename_i hb
      obtain ⟨g1, g2⟩ := h2 e (List.mem_cons_self ..) hb
      rw [Nat.testBit_or, Nat.testBit_or, Bool.or_eq_true, Bool.or_eq_true] at hj
      rcases hj with (hj | hj) | hj
      · exact h1 j hj
      · rw [Nat.testBit_two_pow] at hj
        have : e.on = j := by simpa using hj
        rw [← this]; exact g1
      · exact g2 j hj
    · exact h1 j hj
theorem bef_closed {S : Nat → Bool} (hC : Cl ops S) : ∀ i j, isBef (befs ops) j i = true → S i = true → S j = true := by
  have key : ∀ (l : List Oper) (k : Nat) (acc : Array Nat), acc.size = k → (∀ j, l[j]? = ops[k + j]?) → (∀ i, i < k → S i = true → ∀ j, (acc.getD i 0).testBit j = true → S j = true) →
      ∀ i, S i = true → ∀ j, ((l.foldl (fun acc o => acc.push (o.after.foldl (fun s e => if Region.binds .any e then s ||| 2 ^ e.on ||| acc.getD e.on 0 else s) 0)) acc).getD i 0).testBit j = true → S j = true := by
    intro l
    induction l with
    | nil =>
      intro k acc hk _ h i hi j hj
      by_cases hik : i < k
      · exact h i hik hi j hj
      · simp [Array.getD_eq_getD_getElem?, Array.getElem?_eq_none (by omega : acc.size ≤ i)] at hj
    | cons o l ih =>
      intro k acc hk hl h i hi j hj
      simp only [List.foldl_cons] at hj
      refine ih (k + 1) _ (by simp [hk]) (fun j => by have := hl (j + 1); simpa [Nat.add_assoc, Nat.add_comm 1 j] using this) (fun i hik hi j hj => ?_) i hi j hj
      by_cases hlt : i < k
      · refine h i hlt hi j ?_
        rw [Array.getD_eq_getD_getElem?, Array.getElem?_push, if_neg (by omega)] at hj
        rw [Array.getD_eq_getD_getElem?]; exact hj
      · have e0 : i = k := by omega
        subst e0
        rw [Array.getD_eq_getD_getElem?, Array.getElem?_push, if_pos hk.symm, Option.getD_some] at hj
        have ho : ops[i]? = some o := by have := hl 0; simpa using this.symm
        rw [← Array.foldl_toList] at hj
        refine bef_fold (S := S) o.after.toList acc 0 (fun j q => by simp at q) (fun e he hb => ?_) j hj
        have hSe := hC i o hi ho e (by simpa using he) hb
        refine ⟨hSe, fun j hj => ?_⟩
        by_cases hlt2 : e.on < i
        · exact h e.on hlt2 hSe j hj
        · simp [Array.getD_eq_getD_getElem?, Array.getElem?_eq_none (by omega : acc.size ≤ e.on)] at hj
  intro i j hb hi
  unfold isBef befs Region.before at hb
  rw [← Array.foldl_toList] at hb
  exact key ops.toList 0 #[] rfl (fun j => by simp) (fun i hi => by omega) i hi j hb
end Go.Proofs.Ytncpdahappmhkaa.Am
