/- The abstract machine's operations are the model's: the third part. -/
import Derived.Test.YtncpdahappmhkaaAmE
namespace Go.Proofs.Ytncpdahappmhkaa.Am
open Go
set_option linter.unusedVariables false
set_option linter.unusedSimpArgs false
variable {P : Program} {base : Nat} {r : Rho} {h h2 : H} {w : World} {e : Env} {a : Act} {nm : Option Nat} {v : Value}

/-! ### Comparing -/
theorem VR.agg_inv {r : Rho} {x : Array Value} {v' : Value} (h : VR r (.agg x) v') : ∃ x', v' = .agg x' ∧ VL r x.toList x'.toList := by
  cases h with | agg hx h1 => exact ⟨_, rfl, by simpa using hx, fun i v v' a b => h1 i v v' (by simpa using a) (by simpa using b)⟩

theorem eqL_append {x y : Array Value} : ∀ {l m : List (Nat × Nat)} {b : Bool}, eqL x y (l ++ m) = some b → ∃ c d, eqL x y l = some c ∧ eqL x y m = some d ∧ b = (c && d) := by
  intro l
  induction l with
  | nil => intro m b h; exact ⟨true, b, rfl, h, by simp⟩
  | cons p l ih =>
    intro m b h
    obtain ⟨o, k⟩ := p
    simp only [List.cons_append, eqL] at h ⊢
    split at h
    · rename_i u hu
      split at h
      · rename_i u' hu'
        split at h
        · rename_i c hc
          split at h
          · rename_i d hd; cases h
            obtain ⟨c', d', g1, g2, g3⟩ := ih hd
            exact ⟨c && c', d', by simp only [hu, hu', hc, g1], g2, by rw [g3, Bool.and_assoc]⟩
          · cases h
        · cases h
      · cases h
    · cases h

def eqElems (d : Nat) (el : TypeId) (s : Nat) (xs ys : Array Value) : Nat → Nat → Sem Bool
  | 0, _ => pure true
  | n + 1, i => do
    let a ← part el xs (i * s)
    let b ← part el ys (i * s)
    let r ← Op.equalIn d el a b
    if (!r) = true then pure false else eqElems d el s xs ys n (i + 1)
theorem run_equalIn_array (w : World) (d : Nat) (t el : TypeId) (n : Nat) (i : TypeInfo) (xs ys : Array Value) (ht : P.underlying t = some (.array n el)) (hi : P.info? el = some i) :
    (Op.equalIn (d + 1) t (.agg xs) (.agg ys)).run P w = (eqElems d el i.size xs ys n 0).run P w := by
  simp only [Op.equalIn, Sem.run_bind, run_underlying ht, Result.andThen_ok, run_sizeOf' hi]
  rw [Std.Legacy.Range.forIn_eq_forIn_range']
  simp only [Std.Legacy.Range.size, Nat.sub_zero, Nat.add_sub_cancel, Nat.div_one]
  clear ht
  generalize 0 = k
  induction n generalizing w k with
  | zero => simp [eqElems]
  | succ n ih =>
    simp only [List.range'_succ, List.forIn_cons, eqElems, Sem.run_bind, Sem.run_ite]
    generalize (part el xs (k * i.size)).run P w = r1
    cases r1 with
    | ok a w1 =>
      simp only [Result.andThen_ok]
      generalize (part el ys (k * i.size)).run P w1 = r2
      cases r2 with
      | ok b w2 =>
        simp only [Result.andThen_ok]
        generalize (Op.equalIn d el a b).run P w2 = r3
        cases r3 with
        | ok r w3 =>
          cases r
          · simp only [Result.andThen_ok, Bool.not_false, if_true, Sem.run_pure]
          · simp only [Result.andThen_ok, Bool.not_true, Bool.false_eq_true, if_false, Sem.run_pure]
            exact ih w3 (k + 1)
        | halt x w3 => simp [Result.andThen]
      | halt x w2 => simp [Result.andThen]
    | halt x w1 => simp [Result.andThen]

theorem run_part_agg {t : TypeId} {i : TypeInfo} (hA : isAggB P t = true) (hi : P.info? t = some i) (xs : Array Value) (o : Nat) (w : World) : (part t xs o).run P w = .ok (.agg (xs.extract o (o + i.size))) w := by
  unfold isAggB at hA
  cases hd : P.underlying t with
  | none => rw [hd] at hA; cases hA
  | some d => rw [hd] at hA; cases d <;> first | (simp at hA; done) | simp [part, isAgg, run_underlying hd, run_sizeOf' hi]
theorem run_part_one {t : TypeId} {d : TypeDesc} (hd : P.underlying t = some d) (hA : isAggB P t = false) {xs : Array Value} {o : Nat} {v : Value} (hv : xs[o]? = some v) (w : World) : (part t xs o).run P w = .ok v w := by
  unfold isAggB at hA; rw [hd] at hA
  cases d <;> first | (simp at hA; done) | simp [part, isAgg, run_underlying hd, hv]

/-- What 'eqOffs' says of a type at a depth. -/
def EqT (P : Program) (d : Nat) : Prop := ∀ (t : TypeId) (off : Nat) (l : List (Nat × Nat)), eqOffs P d t off = some l → ∀ (x y : Array Value) (b : Bool), eqL x y l = some b → ∀ D, d ≤ D → ∃ sz, szOf P t = some sz ∧
  ∀ (xs ys : Array Value) (o : Nat), (∀ i, i < sz → xs[o + i]? = x[off + i]?) → (∀ i, i < sz → ys[o + i]? = y[off + i]?) →
    ∃ p q, (∀ w, (part t xs o).run P w = .ok p w) ∧ (∀ w, (part t ys o).run P w = .ok q w) ∧ ∀ w, (Op.equalIn D t p q).run P w = .ok b w
def EqB (P : Program) (d : Nat) : Prop := ∀ (t : TypeId) (off : Nat) (l : List (Nat × Nat)), isAggB P t = true → eqOffs P d t off = some l → ∀ (x y : Array Value) (b : Bool), eqL x y l = some b → ∀ D, d ≤ D → ∃ sz, szOf P t = some sz ∧
  ∀ (xs ys : Array Value), (∀ i, i < sz → xs[i]? = x[off + i]?) → (∀ i, i < sz → ys[i]? = y[off + i]?) → ∀ w, (Op.equalIn D t (.agg xs) (.agg ys)).run P w = .ok b w

theorem eq1_run {t : TypeId} {k : Nat} {p q : Value} {b : Bool} (D : Nat) (ht : (k = 0 ∧ P.underlying t = some .bool) ∨ (k = 1 ∧ ∃ j, P.underlying t = some (.int j)) ∨ (k = 2 ∧ P.underlying t = some .string)) (E : eq1 k p q = some b) (w : World) :
    (Op.equalIn (D + 1) t p q).run P w = .ok b w := by
  unfold eq1 at E
  split at E
  · cases E
    rcases ht with ⟨_, ht⟩ | ⟨hk, _⟩ | ⟨hk, _⟩
    · exact run_equalIn_bool w D t _ _ ht
    · cases hk
    · cases hk
  · split at E
    · rename_i hk'; subst hk'; cases E
      rcases ht with ⟨hk, _⟩ | ⟨_, j, ht⟩ | ⟨hk, _⟩
      · cases hk
      · exact run_equalIn_int w D t _ j _ _ ht
      · cases hk
    · cases E
  · cases E
    rcases ht with ⟨hk, _⟩ | ⟨hk, _⟩ | ⟨_, ht⟩
    · cases hk
    · cases hk
    · exact run_equalIn_string w D t _ _ ht
  · cases E

theorem eqB_succ {d : Nat} (ih : EqT P d) : EqB P (d + 1) := by
  intro t off l hA he x y b hb D hD
  obtain ⟨D, rfl⟩ : ∃ m, D = m + 1 := ⟨D - 1, by omega⟩
  unfold isAggB at hA
  simp only [eqOffs] at he
  split at he
  · rename_i ht; rw [ht] at hA; simp at hA
  · rename_i ht; rw [ht] at hA; simp at hA
  · rename_i ht; rw [ht] at hA; simp at hA
  · -- a struct
    rename_i fs ht
    split at he
    · cases he
    · rename_i hst
      split at he
      · rename_i sz hsz
        refine ⟨sz, hsz, fun xs ys hx hy w => ?_⟩
        have htf : P.underlying t = some (.struct (P.fieldsOf t)) := by simp [Program.fieldsOf, ht]
        have hff : P.fieldsOf t = fs := by simp [Program.fieldsOf, ht]
        rw [run_equalIn_struct w D t xs ys htf (by simpa using hst), hff]
        generalize fs.toList = gs at he
        clear htf hff
        induction gs generalizing l b w with
        | nil => simp only [offsF] at he; cases he; simp only [eqL] at hb; cases hb; simp [Op.eqFields]
        | cons g gs ihg =>
          simp only [offsF] at he
          split at he
          · cases he
          · rename_i hg
            split at he
            · rename_i n hn
              split at he
              · rename_i hle
                split at he
                · rename_i l1 hl1
                  split at he
                  · rename_i l2 hl2; cases he
                    obtain ⟨c, c2, e1, e2, rfl⟩ := eqL_append hb
                    obtain ⟨n', hn', k⟩ := ih g.type _ l1 hl1 x y c e1 D (by omega)
                    rw [hn] at hn'; cases hn'
                    obtain ⟨p, q, k1, k2, k3⟩ := k xs ys g.offset (fun i hi => by rw [hx _ (by omega), Nat.add_assoc]) (fun i hi => by rw [hy _ (by omega), Nat.add_assoc])
                    have := ihg l2 c2 e2 w hl2
                    simp only [Op.eqFields, ne_eq, hg, not_false_eq_true, if_true, Sem.run_bind, k1, k2, k3, Result.andThen_ok, Sem.run_ite]
                    cases c
                    · simp
                    · simpa using this
                  · cases he
                · cases he
              · cases he
            · cases he
      · cases he
  · -- an array
    rename_i n el ht
    split at he
    · rename_i sz s hsz hs
      split at he
      · rename_i hle
        obtain ⟨i, hi, rfl⟩ := info_of_szOf hs
        refine ⟨sz, hsz, fun xs ys hx hy w => ?_⟩
        rw [run_equalIn_array w D t el n i xs ys ht hi]
        have key : ∀ (m k : Nat) (l : List (Nat × Nat)) (b : Bool) (w : World), k + m = n → offsA (eqOffs P d) off el i.size m k = some l → eqL x y l = some b → (eqElems D el i.size xs ys m k).run P w = .ok b w := by
          intro m
          induction m with
          | zero => intro k l b w _ he hb; simp only [offsA] at he; cases he; simp only [eqL] at hb; cases hb; simp [eqElems]
          | succ m ihm =>
            intro k l b w hkm he hb
            simp only [offsA] at he
            split at he
            · rename_i l1 hl1
              split at he
              · rename_i l2 hl2; cases he
                obtain ⟨c, c2, e1, e2, rfl⟩ := eqL_append hb
                obtain ⟨n', hn', q⟩ := ih el _ l1 hl1 x y c e1 D (by omega)
                rw [hs] at hn'; cases hn'
                have hb1 : (k + 1) * i.size ≤ n * i.size := Nat.mul_le_mul_right _ (by omega)
                rw [Nat.succ_mul] at hb1
                obtain ⟨p, p', k1, k2, k3⟩ := q xs ys (k * i.size) (fun j hj => by rw [hx _ (by omega), Nat.add_assoc]) (fun j hj => by rw [hy _ (by omega), Nat.add_assoc])
                have := ihm (k + 1) l2 c2 w (by omega) hl2 e2
                simp only [eqElems, Sem.run_bind, k1, k2, k3, Result.andThen_ok, Sem.run_ite]
                cases c
                · simp
                · simpa using this
              · cases he
            · cases he
        exact key n 0 l b w (by omega) he hb
      · cases he
    · cases he
  · cases he

theorem eqT_succ {d : Nat} (ih : EqT P d) : EqT P (d + 1) := by
  intro t off l he x y b hb D hD
  by_cases hA : isAggB P t = true
  · obtain ⟨sz, hsz, k⟩ := eqB_succ ih t off l hA he x y b hb D hD
    obtain ⟨i, hi, rfl⟩ := info_of_szOf hsz
    refine ⟨i.size, hsz, fun xs ys o hx hy => ⟨_, _, run_part_agg hA hi xs o, run_part_agg hA hi ys o, k _ _ (fun j hj => ?_) (fun j hj => ?_)⟩⟩
    · rw [← hx j hj, Array.getElem?_extract]; split
      · rfl
      · rename_i q; rw [Array.getElem?_eq_none (by omega)]
    · rw [← hy j hj, Array.getElem?_extract]; split
      · rfl
      · rename_i q; rw [Array.getElem?_eq_none (by omega)]
  · have hA' : isAggB P t = false := by simpa using hA
    obtain ⟨D, rfl⟩ : ∃ m, D = m + 1 := ⟨D - 1, by omega⟩
    simp only [eqOffs] at he
    have fin : ∀ (k : Nat) (dd : TypeDesc), P.underlying t = some dd → ((k = 0 ∧ P.underlying t = some .bool) ∨ (k = 1 ∧ ∃ j, P.underlying t = some (.int j)) ∨ (k = 2 ∧ P.underlying t = some .string)) → szOf P t = some 1 → l = [(off, k)] →
        ∃ sz, szOf P t = some sz ∧ ∀ (xs ys : Array Value) (o : Nat), (∀ i, i < sz → xs[o + i]? = x[off + i]?) → (∀ i, i < sz → ys[o + i]? = y[off + i]?) →
          ∃ p q, (∀ w, (part t xs o).run P w = .ok p w) ∧ (∀ w, (part t ys o).run P w = .ok q w) ∧ ∀ w, (Op.equalIn (D + 1) t p q).run P w = .ok b w := by
      intro k dd hd hk hs hl
      subst hl
      simp only [eqL] at hb
      split at hb
      · rename_i p hp
        split at hb
        · rename_i q hq
          split at hb
          · rename_i c hc; cases hb
            refine ⟨1, hs, fun xs ys o hx hy => ⟨p, q, run_part_one hd hA' (by have := hx 0 (by omega); simpa [hp] using this), run_part_one hd hA' (by have := hy 0 (by omega); simpa [hq] using this), fun w => ?_⟩⟩
            rw [Bool.and_true]; exact eq1_run D hk hc w
          · cases hb
        · cases hb
      · cases hb
    split at he
    · rename_i ht
      split at he
      · rename_i hs; cases he; exact fin 0 _ ht (.inl ⟨rfl, ht⟩) hs rfl
      · cases he
    · rename_i ht
      split at he
      · rename_i hs; cases he; exact fin 1 _ ht (.inr (.inl ⟨rfl, _, ht⟩)) hs rfl
      · cases he
    · rename_i ht
      split at he
      · rename_i hs; cases he; exact fin 2 _ ht (.inr (.inr ⟨rfl, ht⟩)) hs rfl
      · cases he
    · rename_i ht; unfold isAggB at hA; rw [ht] at hA; simp at hA
    · rename_i ht; unfold isAggB at hA; rw [ht] at hA; simp at hA
    · cases he
theorem eqT (P : Program) : ∀ d, EqT P d
  | 0 => fun t off l he => by simp [eqOffs] at he
  | d + 1 => eqT_succ (eqT P d)

theorem eq1_rel {k : Nat} {p q p' q' : Value} {b : Bool} (hp : VR r p p') (hq : VR r q q') (E : eq1 k p q = some b) : eq1 k p' q' = some b := by
  unfold eq1 at E
  split at E
  · rw [VR.bool_inv hp, VR.bool_inv hq]; exact E
  · rw [VR.int_inv hp, VR.int_inv hq]; exact E
  · rw [VR.string_inv hp, VR.string_inv hq]; exact E
  · cases E
theorem eqL_rel {x y x' y' : Array Value} (hx : VL r x.toList x'.toList) (hy : VL r y.toList y'.toList) : ∀ {l : List (Nat × Nat)} {b : Bool}, eqL x y l = some b → eqL x' y' l = some b := by
  intro l
  induction l with
  | nil => intro b h; exact h
  | cons p l ih =>
    intro b h
    obtain ⟨o, k⟩ := p
    simp only [eqL] at h ⊢
    split at h
    · rename_i u hu
      split at h
      · rename_i z hz
        split at h
        · rename_i c hc
          split at h
          · rename_i d hd; cases h
            obtain ⟨u', q1, q2⟩ := hx.get (i := o) (v := u) (by simpa using hu)
            obtain ⟨z', q3, q4⟩ := hy.get (i := o) (v := z) (by simpa using hz)
            have e1 : x'[o]? = some u' := by simpa using q1
            have e2 : y'[o]? = some z' := by simpa using q3
            simp only [e1, e2, eq1_rel q2 q4 hc, ih hd]
          · cases h
        · cases h
      · cases h
    · cases h
end Go.Proofs.Ytncpdahappmhkaa.Am
