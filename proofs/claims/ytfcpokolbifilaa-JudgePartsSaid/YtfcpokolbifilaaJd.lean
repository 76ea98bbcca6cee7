/- The functions that the law 'JudgeParts' runs, by the abstract machine: what each comes to; that the law tells true. -/
import Derived.Test.YtfcpokolbifilaaAmU
import Derived.Test.YtfcpokolbifilaaIrJudgeParts0
namespace Go.Proofs.Ytfcpokolbifilaa.Jd
open Go Go.Proofs.Ytfcpokolbifilaa.Am Go.Proofs.Ytfcpokolbifilaa.IrJudgeParts
set_option linter.unusedVariables false
set_option linter.unusedSimpArgs false
variable {tab : Nat → Option FD}
theorem ne_self (x : Int) : (x != x) = false := by simp
theorem isNaN64 (ht : tab 27 = some (.code ir27)) (x : Int) (h : H) : Ran tab 27 [.int .u64 x] h (.bool false) h := by
  refine Ran.codeR (e2 := [(2, .bool (x != x))]) (vs := [.bool false]) ht rfl ?_ ?_
  · exact (.seq (.run [(0, _)] (.op rfl rfl .nil) rfl) (.seq (.run [(2, _)] (.op rfl rfl (.op rfl rfl (.op rfl rfl (.op rfl rfl .nil)))) rfl) .ret))
  · rw [ne_self]; rfl
theorem isNaNi (ht : tab 28 = some (.code ir28)) (x : Int) (h : H) : Ran tab 28 [.int .i64 x] h (.bool false) h := by
  refine Ran.codeR (e2 := [(2, .bool (x != x))]) (vs := [.bool false]) ht rfl ?_ ?_
  · exact (.seq (.run [(0, _)] (.op rfl rfl .nil) rfl) (.seq (.run [(2, _)] (.op rfl rfl (.op rfl rfl (.op rfl rfl (.op rfl rfl .nil)))) rfl) .ret))
  · rw [ne_self]; rfl
def cmpI (x y : Int) : Int := if x < y then -1 else if x > y then 1 else 0
theorem compare64 (ht : tab 22 = some (.code ir22)) (ht2 : tab 27 = some (.code ir27)) (x y : Int) (h : H) : Ran tab 22 [.int .u64 x, .int .u64 y] h (.int .i64 (cmpI x y)) h := by
  refine Ran.codeR (e2 := [(4, .int .i64 (cmpI x y))]) (vs := [.int .i64 (cmpI x y)]) ht rfl ?_ rfl
  unfold cmpI
  by_cases h1 : x < y
  · rw [if_pos h1]
    have c1 : some (Value.bool (decide (x < y))) = some (Value.bool true) := by simp [h1]
    exact (.seq (.run [(0, _), (1, _)] (.op rfl rfl .nil) rfl) (.seq (.run [(0, _), (1, _), (5, _)] (.op rfl rfl (.call rfl rfl rfl (isNaN64 ht2 x h) (.op rfl rfl .nil))) rfl) (.seq (.run [(0, _), (1, _), (5, _), (6, _)] (.op rfl rfl (.call rfl rfl rfl (isNaN64 ht2 y h) (.op rfl rfl .nil))) rfl) (.seq (.seq (.run [(0, _), (1, _), (6, _), (11, _)] (.op rfl rfl .nil) rfl) (.condF rfl .skip)) (.seq (.seq (.run [(0, _), (1, _), (13, _)] (.op rfl rfl .nil) rfl) (.condF rfl .skip)) (.seqR (.seq (.run [(0, _), (1, _), (16, _)] (.op rfl rfl (.op rfl rfl (.op rfl rfl .nil))) rfl) (.condT c1 (.seq (.run [(4, _)] (.op rfl rfl .nil) rfl) .ret)))))))))
  · rw [if_neg h1]
    have c1 : some (Value.bool (decide (x < y))) = some (Value.bool false) := by simp [h1]
    by_cases h2 : x > y
    · rw [if_pos h2]
      have c2 : some (Value.bool (decide (x > y))) = some (Value.bool true) := by simp [h2]
      exact (.seq (.run [(0, _), (1, _)] (.op rfl rfl .nil) rfl) (.seq (.run [(0, _), (1, _), (5, _)] (.op rfl rfl (.call rfl rfl rfl (isNaN64 ht2 x h) (.op rfl rfl .nil))) rfl) (.seq (.run [(0, _), (1, _), (5, _), (6, _)] (.op rfl rfl (.call rfl rfl rfl (isNaN64 ht2 y h) (.op rfl rfl .nil))) rfl) (.seq (.seq (.run [(0, _), (1, _), (6, _), (11, _)] (.op rfl rfl .nil) rfl) (.condF rfl .skip)) (.seq (.seq (.run [(0, _), (1, _), (13, _)] (.op rfl rfl .nil) rfl) (.condF rfl .skip)) (.seq (.seq (.run [(0, _), (1, _), (16, _)] (.op rfl rfl (.op rfl rfl (.op rfl rfl .nil))) rfl) (.condF c1 .skip)) (.seqR (.seq (.run [(19, _)] (.op rfl rfl (.op rfl rfl (.op rfl rfl .nil))) rfl) (.condT c2 (.seq (.run [(4, _)] (.op rfl rfl .nil) rfl) .ret))))))))))
    · rw [if_neg h2]
      have c2 : some (Value.bool (decide (x > y))) = some (Value.bool false) := by simp [h2]
      exact (.seq (.run [(0, _), (1, _)] (.op rfl rfl .nil) rfl) (.seq (.run [(0, _), (1, _), (5, _)] (.op rfl rfl (.call rfl rfl rfl (isNaN64 ht2 x h) (.op rfl rfl .nil))) rfl) (.seq (.run [(0, _), (1, _), (5, _), (6, _)] (.op rfl rfl (.call rfl rfl rfl (isNaN64 ht2 y h) (.op rfl rfl .nil))) rfl) (.seq (.seq (.run [(0, _), (1, _), (6, _), (11, _)] (.op rfl rfl .nil) rfl) (.condF rfl .skip)) (.seq (.seq (.run [(0, _), (1, _), (13, _)] (.op rfl rfl .nil) rfl) (.condF rfl .skip)) (.seq (.seq (.run [(0, _), (1, _), (16, _)] (.op rfl rfl (.op rfl rfl (.op rfl rfl .nil))) rfl) (.condF c1 .skip)) (.seq (.seq (.run [(19, _)] (.op rfl rfl (.op rfl rfl (.op rfl rfl .nil))) rfl) (.condF c2 .skip)) (.seq (.run [(4, _)] (.op rfl rfl .nil) rfl) .ret))))))))
theorem compareI (ht : tab 23 = some (.code ir23)) (ht2 : tab 28 = some (.code ir28)) (x y : Int) (h : H) : Ran tab 23 [.int .i64 x, .int .i64 y] h (.int .i64 (cmpI x y)) h := by
  refine Ran.codeR (e2 := [(4, .int .i64 (cmpI x y))]) (vs := [.int .i64 (cmpI x y)]) ht rfl ?_ rfl
  unfold cmpI
  by_cases h1 : x < y
  · rw [if_pos h1]
    have c1 : some (Value.bool (decide (x < y))) = some (Value.bool true) := by simp [h1]
    exact (.seq (.run [(0, _), (1, _)] (.op rfl rfl .nil) rfl) (.seq (.run [(0, _), (1, _), (5, _)] (.op rfl rfl (.call rfl rfl rfl (isNaNi ht2 x h) (.op rfl rfl .nil))) rfl) (.seq (.run [(0, _), (1, _), (5, _), (6, _)] (.op rfl rfl (.call rfl rfl rfl (isNaNi ht2 y h) (.op rfl rfl .nil))) rfl) (.seq (.seq (.run [(0, _), (1, _), (6, _), (11, _)] (.op rfl rfl .nil) rfl) (.condF rfl .skip)) (.seq (.seq (.run [(0, _), (1, _), (13, _)] (.op rfl rfl .nil) rfl) (.condF rfl .skip)) (.seqR (.seq (.run [(0, _), (1, _), (16, _)] (.op rfl rfl (.op rfl rfl (.op rfl rfl .nil))) rfl) (.condT c1 (.seq (.run [(4, _)] (.op rfl rfl .nil) rfl) .ret)))))))))
  · rw [if_neg h1]
    have c1 : some (Value.bool (decide (x < y))) = some (Value.bool false) := by simp [h1]
    by_cases h2 : x > y
    · rw [if_pos h2]
      have c2 : some (Value.bool (decide (x > y))) = some (Value.bool true) := by simp [h2]
      exact (.seq (.run [(0, _), (1, _)] (.op rfl rfl .nil) rfl) (.seq (.run [(0, _), (1, _), (5, _)] (.op rfl rfl (.call rfl rfl rfl (isNaNi ht2 x h) (.op rfl rfl .nil))) rfl) (.seq (.run [(0, _), (1, _), (5, _), (6, _)] (.op rfl rfl (.call rfl rfl rfl (isNaNi ht2 y h) (.op rfl rfl .nil))) rfl) (.seq (.seq (.run [(0, _), (1, _), (6, _), (11, _)] (.op rfl rfl .nil) rfl) (.condF rfl .skip)) (.seq (.seq (.run [(0, _), (1, _), (13, _)] (.op rfl rfl .nil) rfl) (.condF rfl .skip)) (.seq (.seq (.run [(0, _), (1, _), (16, _)] (.op rfl rfl (.op rfl rfl (.op rfl rfl .nil))) rfl) (.condF c1 .skip)) (.seqR (.seq (.run [(19, _)] (.op rfl rfl (.op rfl rfl (.op rfl rfl .nil))) rfl) (.condT c2 (.seq (.run [(4, _)] (.op rfl rfl .nil) rfl) .ret))))))))))
    · rw [if_neg h2]
      have c2 : some (Value.bool (decide (x > y))) = some (Value.bool false) := by simp [h2]
      exact (.seq (.run [(0, _), (1, _)] (.op rfl rfl .nil) rfl) (.seq (.run [(0, _), (1, _), (5, _)] (.op rfl rfl (.call rfl rfl rfl (isNaNi ht2 x h) (.op rfl rfl .nil))) rfl) (.seq (.run [(0, _), (1, _), (5, _), (6, _)] (.op rfl rfl (.call rfl rfl rfl (isNaNi ht2 y h) (.op rfl rfl .nil))) rfl) (.seq (.seq (.run [(0, _), (1, _), (6, _), (11, _)] (.op rfl rfl .nil) rfl) (.condF rfl .skip)) (.seq (.seq (.run [(0, _), (1, _), (13, _)] (.op rfl rfl .nil) rfl) (.condF rfl .skip)) (.seq (.seq (.run [(0, _), (1, _), (16, _)] (.op rfl rfl (.op rfl rfl (.op rfl rfl .nil))) rfl) (.condF c1 .skip)) (.seq (.seq (.run [(19, _)] (.op rfl rfl (.op rfl rfl (.op rfl rfl .nil))) rfl) (.condF c2 .skip)) (.seq (.run [(4, _)] (.op rfl rfl .nil) rfl) .ret))))))))
theorem late (ht : tab 24 = some (.code ir24)) (a t s : Int) (r : Bool) (h : H) : Ran tab 24 [.agg #[.int .i64 a, .int .i64 t, .int .u64 s, .bool r]] h (.int .i64 (if r then 1 else 0)) (h.alloc ⟨[.int .i64 a, .int .i64 t, .int .u64 s, .bool r], 0, false⟩) := by
  refine Ran.codeR (e2 := [(2, .int .i64 (if r then 1 else 0))]) (vs := [.int .i64 (if r then 1 else 0)]) ht rfl ?_ rfl
  have hg := H.get_new h ⟨[.int .i64 a, .int .i64 t, .int .u64 s, .bool r], 0, false⟩
  cases r with
  | true => exact (.seq (.run [(1, _)] (.op rfl rfl (.op rfl rfl .nil)) rfl) (.seqR (.seq (.run [(4, _)] (.op rfl rfl (.op rfl (op_ld1 rfl (ld_at hg rfl)) .nil)) rfl) (.condT rfl (.seq (.run [(2, _)] (.op rfl rfl .nil) rfl) .ret)))))
  | false => exact (.seq (.run [(1, _)] (.op rfl rfl (.op rfl rfl .nil)) rfl) (.seq (.seq (.run [(4, _)] (.op rfl rfl (.op rfl (op_ld1 rfl (ld_at hg rfl)) .nil)) rfl) (.condF rfl .skip)) (.seq (.run [(2, _)] (.op rfl rfl .nil) rfl) .ret)))
theorem or2a (ht : tab 21 = some (.code ir21)) (x y : Int) (hx : ¬ x = 0) (h : H) (b : Nat) (hb : h.get b = some ⟨[.int .i64 x, .int .i64 y], 1, false⟩) : Ran tab 21 [.slice (some ⟨b, 0, none⟩) 2 5] h (.int .i64 x) h := by
  refine Ran.codeR (e2 := [(2, .int .i64 x)]) (vs := [.int .i64 x]) ht rfl ?_ rfl
  have c1 : some (Value.bool (x != 0)) = some (Value.bool true) := by simp [hx]
  exact (.seq (.run [(0, _)] (.op rfl rfl .nil) rfl) (.seq (.run [(0, _), (3, _)] (.op rfl rfl .nil) rfl) (.seqR (.seq (.run [(3, _), (6, _), (7, _), (8, _)] (.op rfl rfl (.op rfl rfl (.op rfl rfl .nil))) rfl) (.blockR (.loopR rfl (.seq (.run [(3, _), (6, _), (7, _), (8, _), (9, _)] (.op rfl rfl .nil) rfl) (.seq (.condT rfl .skip) (.seqR (.blockR (.seq (.run [(3, _), (5, _), (6, _), (7, _), (8, _)] (.op rfl rfl (.op rfl (op_ld1 rfl (ld_at hb rfl)) (.op rfl rfl .nil))) rfl) (.seq (.run [(3, _), (5, _), (6, _), (7, _), (8, _), (14, _)] (.op rfl rfl (.op rfl rfl (.op rfl rfl .nil))) rfl) (.condT c1 (.seq (.run [(2, _)] (.op rfl rfl (.op rfl rfl .nil)) rfl) .ret))))))))))))))
theorem or2b (ht : tab 21 = some (.code ir21)) (y : Int) (hy : ¬ y = 0) (h : H) (b : Nat) (hb : h.get b = some ⟨[.int .i64 0, .int .i64 y], 1, false⟩) : Ran tab 21 [.slice (some ⟨b, 0, none⟩) 2 5] h (.int .i64 y) h := by
  refine Ran.codeR (e2 := [(2, .int .i64 y)]) (vs := [.int .i64 y]) ht rfl ?_ rfl
  have c1 : some (Value.bool (y != 0)) = some (Value.bool true) := by simp [hy]
  exact (.seq (.run [(0, _)] (.op rfl rfl .nil) rfl) (.seq (.run [(0, _), (3, _)] (.op rfl rfl .nil) rfl) (.seqR (.seq (.run [(3, _), (6, _), (7, _), (8, _)] (.op rfl rfl (.op rfl rfl (.op rfl rfl .nil))) rfl) (.blockR (.loop rfl (.seq (.run [(3, _), (6, _), (7, _), (8, _), (9, _)] (.op rfl rfl .nil) rfl) (.seq (.condT rfl .skip) (.seq (.blockN (.seq (.run [(3, _), (5, _), (6, _), (7, _), (8, _)] (.op rfl rfl (.op rfl (op_ld1 rfl (ld_at hb rfl)) (.op rfl rfl .nil))) rfl) (.seq (.run [(3, _), (5, _), (6, _), (7, _), (8, _), (14, _)] (.op rfl rfl (.op rfl rfl (.op rfl rfl .nil))) rfl) (.condF rfl .skip)))) (.run [(3, _), (6, _), (7, _), (8, _)] (.op rfl rfl (.op rfl rfl .nil)) rfl)))) (.loopR rfl (.seq (.run [(3, _), (6, _), (7, _), (8, _), (9, _)] (.op rfl rfl .nil) rfl) (.seq (.condT rfl .skip) (.seqR (.blockR (.seq (.run [(3, _), (5, _), (6, _), (7, _), (8, _)] (.op rfl rfl (.op rfl (op_ld1 rfl (ld_at hb rfl)) (.op rfl rfl .nil))) rfl) (.seq (.run [(3, _), (5, _), (6, _), (7, _), (8, _), (14, _)] (.op rfl rfl (.op rfl rfl (.op rfl rfl .nil))) rfl) (.condT c1 (.seq (.run [(2, _)] (.op rfl rfl (.op rfl rfl .nil)) rfl) .ret)))))))))))))))
theorem or2c (ht : tab 21 = some (.code ir21)) (h : H) (b : Nat) (hb : h.get b = some ⟨[.int .i64 0, .int .i64 0], 1, false⟩) : Ran tab 21 [.slice (some ⟨b, 0, none⟩) 2 5] h (.int .i64 0) h := by
  refine Ran.codeR (e2 := [(2, .int .i64 0)]) (vs := [.int .i64 0]) ht rfl ?_ rfl
  exact (.seq (.run [(0, _)] (.op rfl rfl .nil) rfl) (.seq (.run [(0, _), (3, _)] (.op rfl rfl .nil) rfl) (.seq (.seq (.run [(3, _), (6, _), (7, _), (8, _)] (.op rfl rfl (.op rfl rfl (.op rfl rfl .nil))) rfl) (.blockE (.loop rfl (.seq (.run [(3, _), (6, _), (7, _), (8, _), (9, _)] (.op rfl rfl .nil) rfl) (.seq (.condT rfl .skip) (.seq (.blockN (.seq (.run [(3, _), (5, _), (6, _), (7, _), (8, _)] (.op rfl rfl (.op rfl (op_ld1 rfl (ld_at hb rfl)) (.op rfl rfl .nil))) rfl) (.seq (.run [(3, _), (5, _), (6, _), (7, _), (8, _), (14, _)] (.op rfl rfl (.op rfl rfl (.op rfl rfl .nil))) rfl) (.condF rfl .skip)))) (.run [(3, _), (6, _), (7, _), (8, _)] (.op rfl rfl (.op rfl rfl .nil)) rfl)))) (.loop rfl (.seq (.run [(3, _), (6, _), (7, _), (8, _), (9, _)] (.op rfl rfl .nil) rfl) (.seq (.condT rfl .skip) (.seq (.blockN (.seq (.run [(3, _), (5, _), (6, _), (7, _), (8, _)] (.op rfl rfl (.op rfl (op_ld1 rfl (ld_at hb rfl)) (.op rfl rfl .nil))) rfl) (.seq (.run [(3, _), (5, _), (6, _), (7, _), (8, _), (14, _)] (.op rfl rfl (.op rfl rfl (.op rfl rfl .nil))) rfl) (.condF rfl .skip)))) (.run [(3, _), (6, _), (7, _), (8, _)] (.op rfl rfl (.op rfl rfl .nil)) rfl)))) (.loopE rfl (.seq (.run [(3, _), (6, _), (7, _), (8, _), (9, _)] (.op rfl rfl .nil) rfl) (.seqE (.condF rfl .exit)))))))) (.seq (.run [(2, _)] (.op rfl rfl (.op rfl rfl .nil)) rfl) .ret))))
def or0 (x y : Int) : Int := if x = 0 then y else x
theorem or2 (ht : tab 21 = some (.code ir21)) (x y : Int) (h : H) (b : Nat) (hb : h.get b = some ⟨[.int .i64 x, .int .i64 y], 1, false⟩) : Ran tab 21 [.slice (some ⟨b, 0, none⟩) 2 5] h (.int .i64 (or0 x y)) h := by
  unfold or0
  by_cases hx : x = 0
  · subst hx; rw [if_pos rfl]
    by_cases hy : y = 0
    · subst hy; exact or2c ht h b hb
    · exact or2b ht y hy h b hb
  · rw [if_neg hx]; exact or2a ht x y hx h b hb
def g64 (us : List Value) : Option Value := match us with | [.int .u64 x, .int .u64 y] => some (.int .i64 (cmpI x y)) | _ => none
def gI (us : List Value) : Option Value := match us with | [.int .i64 x, .int .i64 y] => some (.int .i64 (cmpI x y)) | _ => none
def lateI (r : Bool) : Int := if r then 1 else 0
def gLate (us : List Value) : Option Value := match us with | [.agg ⟨[.int .i64 _, .int .i64 _, .int .u64 _, .bool r]⟩] => some (.int .i64 (lateI r)) | _ => none
def pureG (g : List Value → Option Value) : List Value → H → Option (Value × H) := fun us h => match g us with | some v => some (v, h) | none => none
structure JOp where
  a : Int
  t : Int
  s : Int
  r : Bool
def JOp.cells (x : JOp) : List Value := [.int .i64 x.a, .int .i64 x.t, .int .u64 x.s, .bool x.r]
def JOp.val (x : JOp) : Value := .agg #[.int .i64 x.a, .int .i64 x.t, .int .u64 x.s, .bool x.r]
def first (x y : JOp) : Int := or0 (cmpI x.s y.s) (cmpI (lateI x.r) (lateI y.r))
def cmpO (x y : JOp) : Int := if (first x y ≠ 0) ∨ x.r = false then first x y else or0 (cmpI x.t y.t) (cmpI x.a y.a)
structure Tb (tab : Nat → Option FD) : Prop where
  t13 : tab 13 = some (.code ir13)
  t19 : tab 19 = some (.code ir19)
  t21 : tab 21 = some (.code ir21)
  t22 : tab 22 = some (.spec (pureG g64))
  t23 : tab 23 = some (.spec (pureG gI))
  t24 : tab 24 = some (.spec (pureG gLate))
theorem compare_ran (T : Tb tab) (x y : JOp) : ∃ h3, Ran tab 19 [x.val, y.val] ⟨.leaf, 0⟩ (.int .i64 (cmpO x y)) h3 := by
    obtain ⟨a, t, s, r⟩ := x
    obtain ⟨a', t', s', r'⟩ := y
    refine Ran.codeR' [.int .i64 (cmpO ⟨a, t, s, r⟩ ⟨a', t', s', r'⟩)] [(4, .int .i64 (cmpO ⟨a, t, s, r⟩ ⟨a', t', s', r'⟩))] T.t19 rfl ?_ (fun _ => rfl)
    unfold cmpO
    by_cases hf : first ⟨a, t, s, r⟩ ⟨a', t', s', r'⟩ = 0
    · have c19 : Value.bool (first ⟨a, t, s, r⟩ ⟨a', t', s', r'⟩ != 0) = Value.bool false := by simp [hf]
      cases r with
      | false =>
        rw [if_pos (.inr rfl)]
        exact ⟨_, (.seq (.run [(2, _), (3, _)] (.op rfl (op_box 0 rfl rfl rfl rfl) (.op rfl (op_box 1 rfl rfl rfl rfl) (.op rfl rfl .nil))) rfl) (.seq (.draw [(2, _), (3, _), (5, _)] (.op rfl rfl (.op rfl rfl (.op rfl rfl (.op rfl rfl (.op rfl rfl (.op rfl rfl (.call rfl rfl rfl (Ran.spec T.t22 rfl) (.chk rfl rfl rfl (sameV_refl rfl) (.chk rfl rfl rfl (sameV_refl rfl) (.call rfl rfl rfl (Ran.spec T.t24 rfl) (.chk rfl rfl rfl (sameV_refl rfl) (.call rfl rfl rfl (Ran.spec T.t24 rfl) (.call rfl rfl rfl (Ran.spec T.t23 rfl) (.opA rfl (op_bslA 12 rfl rfl rfl rfl) (.call rfl rfl rfl (or2 T.t21 _ _ _ _ rfl) (.op rfl rfl .nil)))))))))))))))) rfl) (.seqR (.seq (.run [(2, _), (3, _), (5, _), (24, _)] (.op rfl rfl (.op rfl (op_val rfl c19) (.op rfl rfl (.op rfl rfl (.op rfl rfl (.op rfl rfl (.op rfl rfl .nil))))))) rfl) (.condT rfl (.seq (.run [(4, _)] (.op rfl rfl (.op rfl rfl .nil)) rfl) .ret))))))⟩
      | true =>
        rw [if_neg (by simp [hf])]
        exact ⟨_, (.seq (.run [(2, _), (3, _)] (.op rfl (op_box 0 rfl rfl rfl rfl) (.op rfl (op_box 1 rfl rfl rfl rfl) (.op rfl rfl .nil))) rfl) (.seq (.draw [(2, _), (3, _), (5, _)] (.op rfl rfl (.op rfl rfl (.op rfl rfl (.op rfl rfl (.op rfl rfl (.op rfl rfl (.call rfl rfl rfl (Ran.spec T.t22 rfl) (.chk rfl rfl rfl (sameV_refl rfl) (.chk rfl rfl rfl (sameV_refl rfl) (.call rfl rfl rfl (Ran.spec T.t24 rfl) (.chk rfl rfl rfl (sameV_refl rfl) (.call rfl rfl rfl (Ran.spec T.t24 rfl) (.call rfl rfl rfl (Ran.spec T.t23 rfl) (.opA rfl (op_bslA 12 rfl rfl rfl rfl) (.call rfl rfl rfl (or2 T.t21 _ _ _ _ rfl) (.op rfl rfl .nil)))))))))))))))) rfl) (.seq (.seq (.run [(2, _), (3, _), (5, _), (24, _)] (.op rfl rfl (.op rfl (op_val rfl c19) (.op rfl rfl (.op rfl rfl (.op rfl rfl (.op rfl rfl (.op rfl rfl .nil))))))) rfl) (.condF rfl .skip)) (.seq (.draw [(4, _)] (.op rfl rfl (.op rfl rfl (.op rfl rfl (.op rfl rfl (.op rfl rfl (.op rfl rfl (.op rfl rfl (.op rfl rfl (.call rfl rfl rfl (Ran.spec T.t23 rfl) (.chk rfl rfl rfl (sameV_refl rfl) (.chk rfl rfl rfl (sameV_refl rfl) (.call rfl rfl rfl (Ran.spec T.t23 rfl) (.opA rfl (op_bslA 25 rfl rfl rfl rfl) (.call rfl rfl rfl (or2 T.t21 _ _ _ _ rfl) (.op rfl rfl .nil))))))))))))))) rfl) .ret))))⟩
    · have c19 : Value.bool (first ⟨a, t, s, r⟩ ⟨a', t', s', r'⟩ != 0) = Value.bool true := by simp [hf]
      rw [if_pos (.inl hf)]
      exact ⟨_, (.seq (.run [(2, _), (3, _)] (.op rfl (op_box 0 rfl rfl rfl rfl) (.op rfl (op_box 1 rfl rfl rfl rfl) (.op rfl rfl .nil))) rfl) (.seq (.draw [(2, _), (3, _), (5, _)] (.op rfl rfl (.op rfl rfl (.op rfl rfl (.op rfl rfl (.op rfl rfl (.op rfl rfl (.call rfl rfl rfl (Ran.spec T.t22 rfl) (.chk rfl rfl rfl (sameV_refl rfl) (.chk rfl rfl rfl (sameV_refl rfl) (.call rfl rfl rfl (Ran.spec T.t24 rfl) (.chk rfl rfl rfl (sameV_refl rfl) (.call rfl rfl rfl (Ran.spec T.t24 rfl) (.call rfl rfl rfl (Ran.spec T.t23 rfl) (.opA rfl (op_bslA 12 rfl rfl rfl rfl) (.call rfl rfl rfl (or2 T.t21 _ _ _ _ rfl) (.op rfl rfl .nil)))))))))))))))) rfl) (.seqR (.seq (.run [(2, _), (3, _), (5, _), (24, _)] (.op rfl rfl (.op rfl (op_val rfl c19) (.op rfl rfl (.off rfl (.off rfl (.off rfl (.op rfl rfl .nil))))))) rfl) (.condT rfl (.seq (.run [(4, _)] (.op rfl rfl (.op rfl rfl .nil)) rfl) .ret))))))⟩
def gAhead (us : List Value) : Option Value := match us with | [.agg ⟨[.int .i64 a, .int .i64 t, .int .u64 s, .bool r]⟩, .agg ⟨[.int .i64 a', .int .i64 t', .int .u64 s', .bool r']⟩] => some (.bool (decide (cmpO ⟨a, t, s, r⟩ ⟨a', t', s', r'⟩ < 0))) | _ => none
structure Tr11 (tab : Nat → Option FD) : Prop where
  t11 : tab 11 = some (.code ir11)
  t13 : tab 13 = some (.spec (pureG gAhead))
def flat (l : List JOp) : List Value := l.flatMap JOp.cells
theorem flat_length (l : List JOp) : (flat l).length = l.length * 4 := by
  induction l with
  | nil => rfl
  | cons x l ih => simp only [flat, List.flatMap_cons, List.length_append, List.length_cons] at ih ⊢; rw [ih]; simp [JOp.cells]; omega
theorem flat_get : ∀ (l : List JOp) (j : Nat) (y : JOp), l[j]? = some y → ((flat l).drop (j * 4)).take 4 = y.cells := by
  intro l
  induction l with
  | nil => intro j y h; simp at h
  | cons x l ih =>
    intro j y h
    cases j with
    | zero => simp at h; subst h; simp [flat, JOp.cells]
    | succ j =>
      simp at h
      rw [← ih j y h]
      have : (flat (x :: l)).drop ((j + 1) * 4) = (flat l).drop (j * 4) := by
        simp only [flat, List.flatMap_cons]
        rw [show (j + 1) * 4 = x.cells.length + j * 4 by simp [JOp.cells]; omega, List.drop_append]
        simp
      rw [this]
def bad (i j : Nat) (x y : JOp) : Bool := (i != j && !x.r && !y.r && x.s == y.s) || (decide (x.t < y.a) && !decide (cmpO x y < 0))
def keep2 : List Nat := [0, 3, 4, 7, 8, 9, 19, 20, 21]
def body2 : IC := (.seq (.run [.op (some 22) none (.bin .lss (.tmp 21) (.tmp 20))] [0, 3, 4, 7, 8, 9, 19, 20, 21, 22]) (.seq (.cond (.tmp 22) .skip (.exit 2)) (.seq (.block 3 (.seq (.run [.op (some 23) none (.mov (.tmp 21)), .op (some 24) none (.iaV 4 (.tmp 19) (.tmp 21)), .op (some 25) none (.ldN 4 (.tmp 24)), .op (some 6) none (.new [(.int .i64 0), (.int .i64 0), (.int .u64 0), (.bool false)]), .op (some 5) none (.mov (.tmp 23)), .op none none (.st 4 (.tmp 6) (.tmp 25))] [0, 3, 4, 5, 6, 7, 8, 9, 19, 20, 21]) (.seq (.run [.op (some 26) none (.mov (.tmp 3)), .op (some 27) none (.mov (.tmp 5)), .op (some 28) none (.bin .neq (.tmp 26) (.tmp 27)), .op (some 29) none (.mov (.tmp 28)), .op (some 30) (some (29, true)) (.fa 3 (.tmp 4)), .op (some 31) (some (29, true)) (.ld1 (.tmp 30)), .op (some 32) (some (29, true)) (.un .not (.tmp 31)), .op (some 33) none (.pick (.tmp 29) (.tmp 32) (.const (.bool false))), .op (some 34) none (.mov (.tmp 33)), .op (some 35) (some (34, true)) (.fa 3 (.tmp 6)), .op (some 36) (some (34, true)) (.ld1 (.tmp 35)), .op (some 37) (some (34, true)) (.un .not (.tmp 36)), .op (some 38) none (.pick (.tmp 34) (.tmp 37) (.const (.bool false))), .op (some 39) none (.mov (.tmp 38)), .op (some 40) (some (39, true)) (.fa 2 (.tmp 4)), .op (some 41) (some (39, true)) (.ld1 (.tmp 40)), .op (some 42) (some (39, true)) (.fa 2 (.tmp 6)), .op (some 43) (some (39, true)) (.ld1 (.tmp 42)), .op (some 44) (some (39, true)) (.bin .eql (.tmp 41) (.tmp 43)), .op (some 45) none (.pick (.tmp 39) (.tmp 44) (.const (.bool false))), .op (some 46) none (.mov (.tmp 45)), .op (some 47) (some (46, false)) (.fa 1 (.tmp 4)), .op (some 48) (some (46, false)) (.ld1 (.tmp 47)), .op (some 49) (some (46, false)) (.fa 0 (.tmp 6)), .op (some 50) (some (46, false)) (.ld1 (.tmp 49)), .op (some 51) (some (46, false)) (.bin .lss (.tmp 48) (.tmp 50)), .op (some 52) (some (46, false)) (.mov (.tmp 51)), .op (some 53) (some (52, true)) (.ldN 4 (.tmp 4)), .op (some 54) (some (52, true)) (.ldN 4 (.tmp 6)), .call (some 55) (some (52, true)) (.fn 13) [(.tmp 53), (.tmp 54)], .op (some 56) (some (52, true)) (.un .not (.tmp 55)), .op (some 57) (some (46, false)) (.pick (.tmp 52) (.tmp 56) (.const (.bool false))), .op (some 58) none (.pick (.tmp 46) (.const (.bool true)) (.tmp 57))] [0, 3, 4, 7, 8, 9, 19, 20, 21, 58]) (.cond (.tmp 58) (.seq (.run [.op (some 2) none (.mov (.const (.bool false)))] [2]) .ret) .skip)))) (.run [.op (some 59) none (.bin .add (.tmp 21) (.const (.int .i64 1))), .op (some 21) none (.mov (.tmp 59))] [0, 3, 4, 7, 8, 9, 19, 20, 21]))))
def Sv (n c : Nat) : Value := .slice (some ⟨0, 0, none⟩) n c
def env2 (n c i p j : Nat) : Env := [(0, Sv n c), (3, .int .i64 i), (4, .pointer (some ⟨p, 0, none⟩)), (7, Sv n c), (8, .int .i64 n), (9, .int .i64 i), (19, Sv n c), (20, .int .i64 n), (21, .int .i64 j)]
/-- What the memory holds. -/
structure HI (l : List JOp) (h : H) : Prop where
  g : h.get 0 = some ⟨flat l, 4, true⟩
  lt : 0 < h.next
structure HP (p : Nat) (x : JOp) (h : H) : Prop where
  g : h.get p = some ⟨x.cells, 0, false⟩
  lt : p < h.next
def zOp : List Value := [.int .i64 0, .int .i64 0, .int .u64 0, .bool false]
/-- The memory with one more operation's block. -/
def add (h : H) (y : JOp) : H := (h.alloc ⟨zOp, 0, false⟩).set h.next (some ⟨y.cells, 0, false⟩)
theorem HI.add {l : List JOp} {h : H} (I : HI l h) (y : JOp) : HI l (Jd.add h y) := ⟨by have := I.lt; rw [Jd.add, H.get_set, if_neg (by omega), H.get_alloc, if_neg (by omega)]; exact I.g, by show 0 < h.next + 1; omega⟩
theorem HP.add {p : Nat} {x : JOp} {h : H} (I : HP p x h) (y : JOp) : HP p x (Jd.add h y) := ⟨by have := I.lt; rw [Jd.add, H.get_set, if_neg (by omega), H.get_alloc, if_neg (by omega)]; exact I.g, by have := I.lt; show p < h.next + 1; omega⟩
theorem HP.new (h : H) (y : JOp) : HP h.next y (Jd.add h y) := ⟨by rw [Jd.add, H.get_set, if_pos rfl], by show h.next < h.next + 1; omega⟩
theorem sts_new (h : H) (y : JOp) : (h.alloc ⟨zOp, 0, false⟩).sts ⟨h.next, 0, none⟩ y.cells = some (Jd.add h y) := by
  rw [JOp.cells, sts_at (H.get_new h _) rfl (by show 0 + 4 ≤ 4; omega) rfl]; rfl
theorem lds_op {p : Nat} {x : JOp} {h : H} (I : HP p x h) : h.lds ⟨p, 0, none⟩ 4 = some x.cells := by
  rw [lds_at I.g (by show 0 + 4 ≤ 4; omega)]; rfl
theorem lds_l {l : List JOp} {h : H} (I : HI l h) {j : Nat} {y : JOp} (hy : l[j]? = some y) : h.lds ⟨0, 0 + j * 4, none⟩ 4 = some y.cells := by
  have hj := (List.getElem?_eq_some_iff.1 hy).1
  rw [lds_at I.g (by rw [flat_length]; omega), Nat.zero_add, flat_get l j y hy]
theorem inner_body (T : Tr11 tab) {l : List JOp} {n c i p j : Nat} {x y : JOp} {h : H} (hn : n < 9223372036854775808) (I : HI l h) (Ip : HP p x h) (hj : j < n) (hy : l[j]? = some y) :
    RanC tab body2 (env2 n c i p j) h (if bad i j x y then .ret else .norm) (if bad i j x y then [(2, .bool false)] else env2 n c i p (j + 1)) (add h y) := by
  have hl := lds_l I hy
  have hs := sts_new h y
  have gp := (Ip.add y).g
  have gb := (HP.new h y).g
  have lp := lds_op (Ip.add y)
  have lb := lds_op (HP.new h y)
  have hw0 : IntKind.i64.wrap ((j : Int) + 1) = ((j + 1 : Nat) : Int) := by rw [IntKind.wrap_i64]; omega
  have hw : Value.int .i64 (IntKind.i64.wrap ((j : Int) + 1)) = Value.int .i64 ((j + 1 : Nat) : Int) := by rw [hw0]
  have hlt : (Value.bool (decide ((j : Int) < (n : Int)))) = Value.bool true := by simp; omega
  obtain ⟨a, t, s, r⟩ := x
  obtain ⟨a', t', s', r'⟩ := y
  by_cases hij : i = j
  · have c28 : Value.bool ((i : Int) != (j : Int)) = Value.bool false := by simp [hij]
    by_cases c2 : t < a'
    · have c51 : Value.bool (decide (t < a')) = Value.bool true := by simp [c2]
      by_cases c3 : cmpO ⟨a, t, s, r⟩ ⟨a', t', s', r'⟩ < 0
      · have hA : pureG gAhead [JOp.val ⟨a, t, s, r⟩, JOp.val ⟨a', t', s', r'⟩] (add h ⟨a', t', s', r'⟩) = some (.bool true, add h ⟨a', t', s', r'⟩) := by simp [pureG, gAhead, JOp.val, c3]
        have hb : bad i j ⟨a, t, s, r⟩ ⟨a', t', s', r'⟩ = false := by simp [bad, c2, c3, hij]
        rw [hb]
        exact (.seq (.run [(0, _), (3, _), (4, _), (7, _), (8, _), (9, _), (19, _), (20, _), (21, _), (22, _)] (.op rfl (op_val rfl hlt) .nil) rfl) (.seq (.condT rfl .skip) (.seq (.blockN (.seq (.run [(0, _), (3, _), (4, _), (5, _), (6, _), (7, _), (8, _), (9, _), (19, _), (20, _), (21, _)] (.op rfl rfl (.op rfl (op_iaV j rfl rfl hj) (.op rfl (op_ldN rfl hl) (.op rfl (op_new h.next rfl) (.op rfl rfl (.op rfl (op_st rfl rfl rfl hs) .nil)))))) rfl) (.seq (.run [(0, _), (3, _), (4, _), (7, _), (8, _), (9, _), (19, _), (20, _), (21, _), (58, _)] (.op rfl rfl (.op rfl rfl (.op rfl (op_val rfl c28) (.op rfl rfl (.off rfl (.off rfl (.off rfl (.op rfl rfl (.op rfl rfl (.off rfl (.off rfl (.off rfl (.op rfl rfl (.op rfl rfl (.off rfl (.off rfl (.off rfl (.off rfl (.off rfl (.op rfl rfl (.op rfl rfl (.op rfl rfl (.op rfl (op_ld1 rfl (ld_at gp rfl)) (.op rfl rfl (.op rfl (op_ld1 rfl (ld_at gb rfl)) (.op rfl (op_val rfl c51) (.op rfl rfl (.op rfl (op_ldN rfl lp) (.op rfl (op_ldN rfl lb) (.call rfl rfl rfl (Ran.spec T.t13 hA) (.op rfl rfl (.op rfl rfl (.op rfl rfl .nil))))))))))))))))))))))))))))))))) rfl) (.condF rfl .skip)))) (.run [(0, _), (3, _), (4, _), (7, _), (8, _), (9, _), (19, _), (20, _), (21, _)] (.op rfl (op_val rfl hw) (.op rfl rfl .nil)) rfl))))
      · have hA : pureG gAhead [JOp.val ⟨a, t, s, r⟩, JOp.val ⟨a', t', s', r'⟩] (add h ⟨a', t', s', r'⟩) = some (.bool false, add h ⟨a', t', s', r'⟩) := by simp [pureG, gAhead, JOp.val, c3]
        have hb : bad i j ⟨a, t, s, r⟩ ⟨a', t', s', r'⟩ = true := by simp [bad, c2, c3, hij]
        rw [hb]
        exact (.seq (.run [(0, _), (3, _), (4, _), (7, _), (8, _), (9, _), (19, _), (20, _), (21, _), (22, _)] (.op rfl (op_val rfl hlt) .nil) rfl) (.seq (.condT rfl .skip) (.seqR (.blockR (.seq (.run [(0, _), (3, _), (4, _), (5, _), (6, _), (7, _), (8, _), (9, _), (19, _), (20, _), (21, _)] (.op rfl rfl (.op rfl (op_iaV j rfl rfl hj) (.op rfl (op_ldN rfl hl) (.op rfl (op_new h.next rfl) (.op rfl rfl (.op rfl (op_st rfl rfl rfl hs) .nil)))))) rfl) (.seq (.run [(0, _), (3, _), (4, _), (7, _), (8, _), (9, _), (19, _), (20, _), (21, _), (58, _)] (.op rfl rfl (.op rfl rfl (.op rfl (op_val rfl c28) (.op rfl rfl (.off rfl (.off rfl (.off rfl (.op rfl rfl (.op rfl rfl (.off rfl (.off rfl (.off rfl (.op rfl rfl (.op rfl rfl (.off rfl (.off rfl (.off rfl (.off rfl (.off rfl (.op rfl rfl (.op rfl rfl (.op rfl rfl (.op rfl (op_ld1 rfl (ld_at gp rfl)) (.op rfl rfl (.op rfl (op_ld1 rfl (ld_at gb rfl)) (.op rfl (op_val rfl c51) (.op rfl rfl (.op rfl (op_ldN rfl lp) (.op rfl (op_ldN rfl lb) (.call rfl rfl rfl (Ran.spec T.t13 hA) (.op rfl rfl (.op rfl rfl (.op rfl rfl .nil))))))))))))))))))))))))))))))))) rfl) (.condT rfl (.seq (.run [(2, _)] (.op rfl rfl .nil) rfl) .ret))))))))
    · have c51 : Value.bool (decide (t < a')) = Value.bool false := by simp [c2]
      have hb : bad i j ⟨a, t, s, r⟩ ⟨a', t', s', r'⟩ = false := by simp [bad, c2, hij]
      rw [hb]
      exact (.seq (.run [(0, _), (3, _), (4, _), (7, _), (8, _), (9, _), (19, _), (20, _), (21, _), (22, _)] (.op rfl (op_val rfl hlt) .nil) rfl) (.seq (.condT rfl .skip) (.seq (.blockN (.seq (.run [(0, _), (3, _), (4, _), (5, _), (6, _), (7, _), (8, _), (9, _), (19, _), (20, _), (21, _)] (.op rfl rfl (.op rfl (op_iaV j rfl rfl hj) (.op rfl (op_ldN rfl hl) (.op rfl (op_new h.next rfl) (.op rfl rfl (.op rfl (op_st rfl rfl rfl hs) .nil)))))) rfl) (.seq (.run [(0, _), (3, _), (4, _), (7, _), (8, _), (9, _), (19, _), (20, _), (21, _), (58, _)] (.op rfl rfl (.op rfl rfl (.op rfl (op_val rfl c28) (.op rfl rfl (.off rfl (.off rfl (.off rfl (.op rfl rfl (.op rfl rfl (.off rfl (.off rfl (.off rfl (.op rfl rfl (.op rfl rfl (.off rfl (.off rfl (.off rfl (.off rfl (.off rfl (.op rfl rfl (.op rfl rfl (.op rfl rfl (.op rfl (op_ld1 rfl (ld_at gp rfl)) (.op rfl rfl (.op rfl (op_ld1 rfl (ld_at gb rfl)) (.op rfl (op_val rfl c51) (.op rfl rfl (.off rfl (.off rfl (.offC rfl (.off rfl (.op rfl rfl (.op rfl rfl .nil))))))))))))))))))))))))))))))))) rfl) (.condF rfl .skip)))) (.run [(0, _), (3, _), (4, _), (7, _), (8, _), (9, _), (19, _), (20, _), (21, _)] (.op rfl (op_val rfl hw) (.op rfl rfl .nil)) rfl))))
  · have c28 : Value.bool ((i : Int) != (j : Int)) = Value.bool true := by simp; omega
    cases r with
    | true =>
      by_cases c2 : t < a'
      · have c51 : Value.bool (decide (t < a')) = Value.bool true := by simp [c2]
        by_cases c3 : cmpO ⟨a, t, s, true⟩ ⟨a', t', s', r'⟩ < 0
        · have hA : pureG gAhead [JOp.val ⟨a, t, s, true⟩, JOp.val ⟨a', t', s', r'⟩] (add h ⟨a', t', s', r'⟩) = some (.bool true, add h ⟨a', t', s', r'⟩) := by simp [pureG, gAhead, JOp.val, c3]
          have hb : bad i j ⟨a, t, s, true⟩ ⟨a', t', s', r'⟩ = false := by simp [bad, c2, c3]
          rw [hb]
          exact (.seq (.run [(0, _), (3, _), (4, _), (7, _), (8, _), (9, _), (19, _), (20, _), (21, _), (22, _)] (.op rfl (op_val rfl hlt) .nil) rfl) (.seq (.condT rfl .skip) (.seq (.blockN (.seq (.run [(0, _), (3, _), (4, _), (5, _), (6, _), (7, _), (8, _), (9, _), (19, _), (20, _), (21, _)] (.op rfl rfl (.op rfl (op_iaV j rfl rfl hj) (.op rfl (op_ldN rfl hl) (.op rfl (op_new h.next rfl) (.op rfl rfl (.op rfl (op_st rfl rfl rfl hs) .nil)))))) rfl) (.seq (.run [(0, _), (3, _), (4, _), (7, _), (8, _), (9, _), (19, _), (20, _), (21, _), (58, _)] (.op rfl rfl (.op rfl rfl (.op rfl (op_val rfl c28) (.op rfl rfl (.op rfl rfl (.op rfl (op_ld1 rfl (ld_at gp rfl)) (.op rfl rfl (.op rfl rfl (.op rfl rfl (.off rfl (.off rfl (.off rfl (.op rfl rfl (.op rfl rfl (.off rfl (.off rfl (.off rfl (.off rfl (.off rfl (.op rfl rfl (.op rfl rfl (.op rfl rfl (.op rfl (op_ld1 rfl (ld_at gp rfl)) (.op rfl rfl (.op rfl (op_ld1 rfl (ld_at gb rfl)) (.op rfl (op_val rfl c51) (.op rfl rfl (.op rfl (op_ldN rfl lp) (.op rfl (op_ldN rfl lb) (.call rfl rfl rfl (Ran.spec T.t13 hA) (.op rfl rfl (.op rfl rfl (.op rfl rfl .nil))))))))))))))))))))))))))))))))) rfl) (.condF rfl .skip)))) (.run [(0, _), (3, _), (4, _), (7, _), (8, _), (9, _), (19, _), (20, _), (21, _)] (.op rfl (op_val rfl hw) (.op rfl rfl .nil)) rfl))))
        · have hA : pureG gAhead [JOp.val ⟨a, t, s, true⟩, JOp.val ⟨a', t', s', r'⟩] (add h ⟨a', t', s', r'⟩) = some (.bool false, add h ⟨a', t', s', r'⟩) := by simp [pureG, gAhead, JOp.val, c3]
          have hb : bad i j ⟨a, t, s, true⟩ ⟨a', t', s', r'⟩ = true := by simp [bad, c2, c3]
          rw [hb]
          exact (.seq (.run [(0, _), (3, _), (4, _), (7, _), (8, _), (9, _), (19, _), (20, _), (21, _), (22, _)] (.op rfl (op_val rfl hlt) .nil) rfl) (.seq (.condT rfl .skip) (.seqR (.blockR (.seq (.run [(0, _), (3, _), (4, _), (5, _), (6, _), (7, _), (8, _), (9, _), (19, _), (20, _), (21, _)] (.op rfl rfl (.op rfl (op_iaV j rfl rfl hj) (.op rfl (op_ldN rfl hl) (.op rfl (op_new h.next rfl) (.op rfl rfl (.op rfl (op_st rfl rfl rfl hs) .nil)))))) rfl) (.seq (.run [(0, _), (3, _), (4, _), (7, _), (8, _), (9, _), (19, _), (20, _), (21, _), (58, _)] (.op rfl rfl (.op rfl rfl (.op rfl (op_val rfl c28) (.op rfl rfl (.op rfl rfl (.op rfl (op_ld1 rfl (ld_at gp rfl)) (.op rfl rfl (.op rfl rfl (.op rfl rfl (.off rfl (.off rfl (.off rfl (.op rfl rfl (.op rfl rfl (.off rfl (.off rfl (.off rfl (.off rfl (.off rfl (.op rfl rfl (.op rfl rfl (.op rfl rfl (.op rfl (op_ld1 rfl (ld_at gp rfl)) (.op rfl rfl (.op rfl (op_ld1 rfl (ld_at gb rfl)) (.op rfl (op_val rfl c51) (.op rfl rfl (.op rfl (op_ldN rfl lp) (.op rfl (op_ldN rfl lb) (.call rfl rfl rfl (Ran.spec T.t13 hA) (.op rfl rfl (.op rfl rfl (.op rfl rfl .nil))))))))))))))))))))))))))))))))) rfl) (.condT rfl (.seq (.run [(2, _)] (.op rfl rfl .nil) rfl) .ret))))))))
      · have c51 : Value.bool (decide (t < a')) = Value.bool false := by simp [c2]
        have hb : bad i j ⟨a, t, s, true⟩ ⟨a', t', s', r'⟩ = false := by simp [bad, c2]
        rw [hb]
        exact (.seq (.run [(0, _), (3, _), (4, _), (7, _), (8, _), (9, _), (19, _), (20, _), (21, _), (22, _)] (.op rfl (op_val rfl hlt) .nil) rfl) (.seq (.condT rfl .skip) (.seq (.blockN (.seq (.run [(0, _), (3, _), (4, _), (5, _), (6, _), (7, _), (8, _), (9, _), (19, _), (20, _), (21, _)] (.op rfl rfl (.op rfl (op_iaV j rfl rfl hj) (.op rfl (op_ldN rfl hl) (.op rfl (op_new h.next rfl) (.op rfl rfl (.op rfl (op_st rfl rfl rfl hs) .nil)))))) rfl) (.seq (.run [(0, _), (3, _), (4, _), (7, _), (8, _), (9, _), (19, _), (20, _), (21, _), (58, _)] (.op rfl rfl (.op rfl rfl (.op rfl (op_val rfl c28) (.op rfl rfl (.op rfl rfl (.op rfl (op_ld1 rfl (ld_at gp rfl)) (.op rfl rfl (.op rfl rfl (.op rfl rfl (.off rfl (.off rfl (.off rfl (.op rfl rfl (.op rfl rfl (.off rfl (.off rfl (.off rfl (.off rfl (.off rfl (.op rfl rfl (.op rfl rfl (.op rfl rfl (.op rfl (op_ld1 rfl (ld_at gp rfl)) (.op rfl rfl (.op rfl (op_ld1 rfl (ld_at gb rfl)) (.op rfl (op_val rfl c51) (.op rfl rfl (.off rfl (.off rfl (.offC rfl (.off rfl (.op rfl rfl (.op rfl rfl .nil))))))))))))))))))))))))))))))))) rfl) (.condF rfl .skip)))) (.run [(0, _), (3, _), (4, _), (7, _), (8, _), (9, _), (19, _), (20, _), (21, _)] (.op rfl (op_val rfl hw) (.op rfl rfl .nil)) rfl))))
    | false =>
      cases r' with
      | true =>
        by_cases c2 : t < a'
        · have c51 : Value.bool (decide (t < a')) = Value.bool true := by simp [c2]
          by_cases c3 : cmpO ⟨a, t, s, false⟩ ⟨a', t', s', true⟩ < 0
          · have hA : pureG gAhead [JOp.val ⟨a, t, s, false⟩, JOp.val ⟨a', t', s', true⟩] (add h ⟨a', t', s', true⟩) = some (.bool true, add h ⟨a', t', s', true⟩) := by simp [pureG, gAhead, JOp.val, c3]
            have hb : bad i j ⟨a, t, s, false⟩ ⟨a', t', s', true⟩ = false := by simp [bad, c2, c3]
            rw [hb]
            exact (.seq (.run [(0, _), (3, _), (4, _), (7, _), (8, _), (9, _), (19, _), (20, _), (21, _), (22, _)] (.op rfl (op_val rfl hlt) .nil) rfl) (.seq (.condT rfl .skip) (.seq (.blockN (.seq (.run [(0, _), (3, _), (4, _), (5, _), (6, _), (7, _), (8, _), (9, _), (19, _), (20, _), (21, _)] (.op rfl rfl (.op rfl (op_iaV j rfl rfl hj) (.op rfl (op_ldN rfl hl) (.op rfl (op_new h.next rfl) (.op rfl rfl (.op rfl (op_st rfl rfl rfl hs) .nil)))))) rfl) (.seq (.run [(0, _), (3, _), (4, _), (7, _), (8, _), (9, _), (19, _), (20, _), (21, _), (58, _)] (.op rfl rfl (.op rfl rfl (.op rfl (op_val rfl c28) (.op rfl rfl (.op rfl rfl (.op rfl (op_ld1 rfl (ld_at gp rfl)) (.op rfl rfl (.op rfl rfl (.op rfl rfl (.op rfl rfl (.op rfl (op_ld1 rfl (ld_at gb rfl)) (.op rfl rfl (.op rfl rfl (.op rfl rfl (.off rfl (.off rfl (.off rfl (.off rfl (.off rfl (.op rfl rfl (.op rfl rfl (.op rfl rfl (.op rfl (op_ld1 rfl (ld_at gp rfl)) (.op rfl rfl (.op rfl (op_ld1 rfl (ld_at gb rfl)) (.op rfl (op_val rfl c51) (.op rfl rfl (.op rfl (op_ldN rfl lp) (.op rfl (op_ldN rfl lb) (.call rfl rfl rfl (Ran.spec T.t13 hA) (.op rfl rfl (.op rfl rfl (.op rfl rfl .nil))))))))))))))))))))))))))))))))) rfl) (.condF rfl .skip)))) (.run [(0, _), (3, _), (4, _), (7, _), (8, _), (9, _), (19, _), (20, _), (21, _)] (.op rfl (op_val rfl hw) (.op rfl rfl .nil)) rfl))))
          · have hA : pureG gAhead [JOp.val ⟨a, t, s, false⟩, JOp.val ⟨a', t', s', true⟩] (add h ⟨a', t', s', true⟩) = some (.bool false, add h ⟨a', t', s', true⟩) := by simp [pureG, gAhead, JOp.val, c3]
            have hb : bad i j ⟨a, t, s, false⟩ ⟨a', t', s', true⟩ = true := by simp [bad, c2, c3]
            rw [hb]
            exact (.seq (.run [(0, _), (3, _), (4, _), (7, _), (8, _), (9, _), (19, _), (20, _), (21, _), (22, _)] (.op rfl (op_val rfl hlt) .nil) rfl) (.seq (.condT rfl .skip) (.seqR (.blockR (.seq (.run [(0, _), (3, _), (4, _), (5, _), (6, _), (7, _), (8, _), (9, _), (19, _), (20, _), (21, _)] (.op rfl rfl (.op rfl (op_iaV j rfl rfl hj) (.op rfl (op_ldN rfl hl) (.op rfl (op_new h.next rfl) (.op rfl rfl (.op rfl (op_st rfl rfl rfl hs) .nil)))))) rfl) (.seq (.run [(0, _), (3, _), (4, _), (7, _), (8, _), (9, _), (19, _), (20, _), (21, _), (58, _)] (.op rfl rfl (.op rfl rfl (.op rfl (op_val rfl c28) (.op rfl rfl (.op rfl rfl (.op rfl (op_ld1 rfl (ld_at gp rfl)) (.op rfl rfl (.op rfl rfl (.op rfl rfl (.op rfl rfl (.op rfl (op_ld1 rfl (ld_at gb rfl)) (.op rfl rfl (.op rfl rfl (.op rfl rfl (.off rfl (.off rfl (.off rfl (.off rfl (.off rfl (.op rfl rfl (.op rfl rfl (.op rfl rfl (.op rfl (op_ld1 rfl (ld_at gp rfl)) (.op rfl rfl (.op rfl (op_ld1 rfl (ld_at gb rfl)) (.op rfl (op_val rfl c51) (.op rfl rfl (.op rfl (op_ldN rfl lp) (.op rfl (op_ldN rfl lb) (.call rfl rfl rfl (Ran.spec T.t13 hA) (.op rfl rfl (.op rfl rfl (.op rfl rfl .nil))))))))))))))))))))))))))))))))) rfl) (.condT rfl (.seq (.run [(2, _)] (.op rfl rfl .nil) rfl) .ret))))))))
        · have c51 : Value.bool (decide (t < a')) = Value.bool false := by simp [c2]
          have hb : bad i j ⟨a, t, s, false⟩ ⟨a', t', s', true⟩ = false := by simp [bad, c2]
          rw [hb]
          exact (.seq (.run [(0, _), (3, _), (4, _), (7, _), (8, _), (9, _), (19, _), (20, _), (21, _), (22, _)] (.op rfl (op_val rfl hlt) .nil) rfl) (.seq (.condT rfl .skip) (.seq (.blockN (.seq (.run [(0, _), (3, _), (4, _), (5, _), (6, _), (7, _), (8, _), (9, _), (19, _), (20, _), (21, _)] (.op rfl rfl (.op rfl (op_iaV j rfl rfl hj) (.op rfl (op_ldN rfl hl) (.op rfl (op_new h.next rfl) (.op rfl rfl (.op rfl (op_st rfl rfl rfl hs) .nil)))))) rfl) (.seq (.run [(0, _), (3, _), (4, _), (7, _), (8, _), (9, _), (19, _), (20, _), (21, _), (58, _)] (.op rfl rfl (.op rfl rfl (.op rfl (op_val rfl c28) (.op rfl rfl (.op rfl rfl (.op rfl (op_ld1 rfl (ld_at gp rfl)) (.op rfl rfl (.op rfl rfl (.op rfl rfl (.op rfl rfl (.op rfl (op_ld1 rfl (ld_at gb rfl)) (.op rfl rfl (.op rfl rfl (.op rfl rfl (.off rfl (.off rfl (.off rfl (.off rfl (.off rfl (.op rfl rfl (.op rfl rfl (.op rfl rfl (.op rfl (op_ld1 rfl (ld_at gp rfl)) (.op rfl rfl (.op rfl (op_ld1 rfl (ld_at gb rfl)) (.op rfl (op_val rfl c51) (.op rfl rfl (.off rfl (.off rfl (.offC rfl (.off rfl (.op rfl rfl (.op rfl rfl .nil))))))))))))))))))))))))))))))))) rfl) (.condF rfl .skip)))) (.run [(0, _), (3, _), (4, _), (7, _), (8, _), (9, _), (19, _), (20, _), (21, _)] (.op rfl (op_val rfl hw) (.op rfl rfl .nil)) rfl))))
      | false =>
        by_cases hss : s = s'
        · have c44 : Value.bool (s == s') = Value.bool true := by simp [hss]
          have hb : bad i j ⟨a, t, s, false⟩ ⟨a', t', s', false⟩ = true := by simp [bad, hij, hss]
          rw [hb]
          exact (.seq (.run [(0, _), (3, _), (4, _), (7, _), (8, _), (9, _), (19, _), (20, _), (21, _), (22, _)] (.op rfl (op_val rfl hlt) .nil) rfl) (.seq (.condT rfl .skip) (.seqR (.blockR (.seq (.run [(0, _), (3, _), (4, _), (5, _), (6, _), (7, _), (8, _), (9, _), (19, _), (20, _), (21, _)] (.op rfl rfl (.op rfl (op_iaV j rfl rfl hj) (.op rfl (op_ldN rfl hl) (.op rfl (op_new h.next rfl) (.op rfl rfl (.op rfl (op_st rfl rfl rfl hs) .nil)))))) rfl) (.seq (.run [(0, _), (3, _), (4, _), (7, _), (8, _), (9, _), (19, _), (20, _), (21, _), (58, _)] (.op rfl rfl (.op rfl rfl (.op rfl (op_val rfl c28) (.op rfl rfl (.op rfl rfl (.op rfl (op_ld1 rfl (ld_at gp rfl)) (.op rfl rfl (.op rfl rfl (.op rfl rfl (.op rfl rfl (.op rfl (op_ld1 rfl (ld_at gb rfl)) (.op rfl rfl (.op rfl rfl (.op rfl rfl (.op rfl rfl (.op rfl (op_ld1 rfl (ld_at gp rfl)) (.op rfl rfl (.op rfl (op_ld1 rfl (ld_at gb rfl)) (.op rfl (op_val rfl c44) (.op rfl rfl (.op rfl rfl (.off rfl (.off rfl (.off rfl (.off rfl (.off rfl (.off rfl (.off rfl (.off rfl (.offC rfl (.off rfl (.off rfl (.op rfl rfl .nil))))))))))))))))))))))))))))))))) rfl) (.condT rfl (.seq (.run [(2, _)] (.op rfl rfl .nil) rfl) .ret))))))))
        · have c44 : Value.bool (s == s') = Value.bool false := by simp [hss]
          by_cases c2 : t < a'
          · have c51 : Value.bool (decide (t < a')) = Value.bool true := by simp [c2]
            by_cases c3 : cmpO ⟨a, t, s, false⟩ ⟨a', t', s', false⟩ < 0
            · have hA : pureG gAhead [JOp.val ⟨a, t, s, false⟩, JOp.val ⟨a', t', s', false⟩] (add h ⟨a', t', s', false⟩) = some (.bool true, add h ⟨a', t', s', false⟩) := by simp [pureG, gAhead, JOp.val, c3]
              have hb : bad i j ⟨a, t, s, false⟩ ⟨a', t', s', false⟩ = false := by simp [bad, c2, c3, hss]
              rw [hb]
              exact (.seq (.run [(0, _), (3, _), (4, _), (7, _), (8, _), (9, _), (19, _), (20, _), (21, _), (22, _)] (.op rfl (op_val rfl hlt) .nil) rfl) (.seq (.condT rfl .skip) (.seq (.blockN (.seq (.run [(0, _), (3, _), (4, _), (5, _), (6, _), (7, _), (8, _), (9, _), (19, _), (20, _), (21, _)] (.op rfl rfl (.op rfl (op_iaV j rfl rfl hj) (.op rfl (op_ldN rfl hl) (.op rfl (op_new h.next rfl) (.op rfl rfl (.op rfl (op_st rfl rfl rfl hs) .nil)))))) rfl) (.seq (.run [(0, _), (3, _), (4, _), (7, _), (8, _), (9, _), (19, _), (20, _), (21, _), (58, _)] (.op rfl rfl (.op rfl rfl (.op rfl (op_val rfl c28) (.op rfl rfl (.op rfl rfl (.op rfl (op_ld1 rfl (ld_at gp rfl)) (.op rfl rfl (.op rfl rfl (.op rfl rfl (.op rfl rfl (.op rfl (op_ld1 rfl (ld_at gb rfl)) (.op rfl rfl (.op rfl rfl (.op rfl rfl (.op rfl rfl (.op rfl (op_ld1 rfl (ld_at gp rfl)) (.op rfl rfl (.op rfl (op_ld1 rfl (ld_at gb rfl)) (.op rfl (op_val rfl c44) (.op rfl rfl (.op rfl rfl (.op rfl rfl (.op rfl (op_ld1 rfl (ld_at gp rfl)) (.op rfl rfl (.op rfl (op_ld1 rfl (ld_at gb rfl)) (.op rfl (op_val rfl c51) (.op rfl rfl (.op rfl (op_ldN rfl lp) (.op rfl (op_ldN rfl lb) (.call rfl rfl rfl (Ran.spec T.t13 hA) (.op rfl rfl (.op rfl rfl (.op rfl rfl .nil))))))))))))))))))))))))))))))))) rfl) (.condF rfl .skip)))) (.run [(0, _), (3, _), (4, _), (7, _), (8, _), (9, _), (19, _), (20, _), (21, _)] (.op rfl (op_val rfl hw) (.op rfl rfl .nil)) rfl))))
            · have hA : pureG gAhead [JOp.val ⟨a, t, s, false⟩, JOp.val ⟨a', t', s', false⟩] (add h ⟨a', t', s', false⟩) = some (.bool false, add h ⟨a', t', s', false⟩) := by simp [pureG, gAhead, JOp.val, c3]
              have hb : bad i j ⟨a, t, s, false⟩ ⟨a', t', s', false⟩ = true := by simp [bad, c2, c3, hss]
              rw [hb]
              exact (.seq (.run [(0, _), (3, _), (4, _), (7, _), (8, _), (9, _), (19, _), (20, _), (21, _), (22, _)] (.op rfl (op_val rfl hlt) .nil) rfl) (.seq (.condT rfl .skip) (.seqR (.blockR (.seq (.run [(0, _), (3, _), (4, _), (5, _), (6, _), (7, _), (8, _), (9, _), (19, _), (20, _), (21, _)] (.op rfl rfl (.op rfl (op_iaV j rfl rfl hj) (.op rfl (op_ldN rfl hl) (.op rfl (op_new h.next rfl) (.op rfl rfl (.op rfl (op_st rfl rfl rfl hs) .nil)))))) rfl) (.seq (.run [(0, _), (3, _), (4, _), (7, _), (8, _), (9, _), (19, _), (20, _), (21, _), (58, _)] (.op rfl rfl (.op rfl rfl (.op rfl (op_val rfl c28) (.op rfl rfl (.op rfl rfl (.op rfl (op_ld1 rfl (ld_at gp rfl)) (.op rfl rfl (.op rfl rfl (.op rfl rfl (.op rfl rfl (.op rfl (op_ld1 rfl (ld_at gb rfl)) (.op rfl rfl (.op rfl rfl (.op rfl rfl (.op rfl rfl (.op rfl (op_ld1 rfl (ld_at gp rfl)) (.op rfl rfl (.op rfl (op_ld1 rfl (ld_at gb rfl)) (.op rfl (op_val rfl c44) (.op rfl rfl (.op rfl rfl (.op rfl rfl (.op rfl (op_ld1 rfl (ld_at gp rfl)) (.op rfl rfl (.op rfl (op_ld1 rfl (ld_at gb rfl)) (.op rfl (op_val rfl c51) (.op rfl rfl (.op rfl (op_ldN rfl lp) (.op rfl (op_ldN rfl lb) (.call rfl rfl rfl (Ran.spec T.t13 hA) (.op rfl rfl (.op rfl rfl (.op rfl rfl .nil))))))))))))))))))))))))))))))))) rfl) (.condT rfl (.seq (.run [(2, _)] (.op rfl rfl .nil) rfl) .ret))))))))
          · have c51 : Value.bool (decide (t < a')) = Value.bool false := by simp [c2]
            have hb : bad i j ⟨a, t, s, false⟩ ⟨a', t', s', false⟩ = false := by simp [bad, c2, hss]
            rw [hb]
            exact (.seq (.run [(0, _), (3, _), (4, _), (7, _), (8, _), (9, _), (19, _), (20, _), (21, _), (22, _)] (.op rfl (op_val rfl hlt) .nil) rfl) (.seq (.condT rfl .skip) (.seq (.blockN (.seq (.run [(0, _), (3, _), (4, _), (5, _), (6, _), (7, _), (8, _), (9, _), (19, _), (20, _), (21, _)] (.op rfl rfl (.op rfl (op_iaV j rfl rfl hj) (.op rfl (op_ldN rfl hl) (.op rfl (op_new h.next rfl) (.op rfl rfl (.op rfl (op_st rfl rfl rfl hs) .nil)))))) rfl) (.seq (.run [(0, _), (3, _), (4, _), (7, _), (8, _), (9, _), (19, _), (20, _), (21, _), (58, _)] (.op rfl rfl (.op rfl rfl (.op rfl (op_val rfl c28) (.op rfl rfl (.op rfl rfl (.op rfl (op_ld1 rfl (ld_at gp rfl)) (.op rfl rfl (.op rfl rfl (.op rfl rfl (.op rfl rfl (.op rfl (op_ld1 rfl (ld_at gb rfl)) (.op rfl rfl (.op rfl rfl (.op rfl rfl (.op rfl rfl (.op rfl (op_ld1 rfl (ld_at gp rfl)) (.op rfl rfl (.op rfl (op_ld1 rfl (ld_at gb rfl)) (.op rfl (op_val rfl c44) (.op rfl rfl (.op rfl rfl (.op rfl rfl (.op rfl (op_ld1 rfl (ld_at gp rfl)) (.op rfl rfl (.op rfl (op_ld1 rfl (ld_at gb rfl)) (.op rfl (op_val rfl c51) (.op rfl rfl (.off rfl (.off rfl (.offC rfl (.off rfl (.op rfl rfl (.op rfl rfl .nil))))))))))))))))))))))))))))))))) rfl) (.condF rfl .skip)))) (.run [(0, _), (3, _), (4, _), (7, _), (8, _), (9, _), (19, _), (20, _), (21, _)] (.op rfl (op_val rfl hw) (.op rfl rfl .nil)) rfl))))
/-- The inner loop. -/
theorem inner_loop (T : Tr11 tab) {l : List JOp} {c i p : Nat} {x : JOp} (hn : l.length < 9223372036854775808) : ∀ (k j : Nat) (h : H), j + k = l.length → HI l h → HP p x h → 0 < p →
    ∃ h2, HI l h2 ∧ HP p x h2 ∧ RanC tab (.loop keep2 body2) (env2 l.length c i p j) h (if (l.drop j).zipIdx j |>.any (fun q => bad i q.2 x q.1) then .ret else .exit 2)
      (if (l.drop j).zipIdx j |>.any (fun q => bad i q.2 x q.1) then [(2, .bool false)] else env2 l.length c i p l.length ++ [(22, .bool false)]) h2 := by
  intro k
  induction k with
  | zero =>
    intro j h hj I Ip _
    have e1 : j = l.length := by omega
    subst e1
    refine ⟨h, I, Ip, ?_⟩
    rw [List.drop_length]
    have hlt : (Value.bool (decide ((l.length : Int) < (l.length : Int)))) = Value.bool false := by simp
    exact (.loopE rfl (.seq (.run [(0, _), (3, _), (4, _), (7, _), (8, _), (9, _), (19, _), (20, _), (21, _), (22, _)] (.op rfl (op_val rfl hlt) .nil) rfl) (.seqE (.condF rfl .exit))))
  | succ k ih =>
    intro j h hj I Ip hp
    have hjl : j < l.length := by omega
    have hy : l[j]? = some l[j] := List.getElem?_eq_getElem hjl
    have hb := inner_body T (c := c) (i := i) hn I Ip hjl hy
    have hd : l.drop j = l[j] :: l.drop (j + 1) := List.drop_eq_getElem_cons hjl
    rw [hd, List.zipIdx_cons, List.any_cons]
    cases hbad : bad i j x l[j] with
    | true =>
      rw [hbad] at hb
      exact ⟨_, I.add _, Ip.add _, .loopR rfl hb⟩
    | false =>
      rw [hbad] at hb
      obtain ⟨h2, g1, g2, g3⟩ := ih (j + 1) _ (by omega) (I.add l[j]) (Ip.add l[j]) hp
      exact ⟨h2, g1, g2, .loop rfl hb g3⟩
def keep1 : List Nat := [0, 7, 8, 9]
def body1 : IC := (.seq (.run [.op (some 10) none (.bin .lss (.tmp 9) (.tmp 8))] [0, 7, 8, 9, 10]) (.seq (.cond (.tmp 10) .skip (.exit 0)) (.seq (.block 1 (.seq (.run [.op (some 11) none (.mov (.tmp 9)), .op (some 12) none (.iaV 4 (.tmp 7) (.tmp 9)), .op (some 13) none (.ldN 4 (.tmp 12)), .op (some 4) none (.new [(.int .i64 0), (.int .i64 0), (.int .u64 0), (.bool false)]), .op (some 3) none (.mov (.tmp 11)), .op none none (.st 4 (.tmp 4) (.tmp 13))] [0, 3, 4, 7, 8, 9]) (.seq (.seq (.run [.op (some 14) none (.fa 0 (.tmp 4)), .op (some 15) none (.ld1 (.tmp 14)), .op (some 16) none (.fa 1 (.tmp 4)), .op (some 17) none (.ld1 (.tmp 16)), .op (some 18) none (.bin .gtr (.tmp 15) (.tmp 17))] [0, 3, 4, 7, 8, 9, 18]) (.cond (.tmp 18) (.seq (.run [.op (some 2) none (.mov (.const (.bool false)))] [2]) .ret) .skip)) (.seq (.run [.op (some 19) none (.mov (.tmp 0)), .op (some 20) none (.lenV (.tmp 19)), .op (some 21) none (.mov (.const (.int .i64 0)))] [0, 3, 4, 7, 8, 9, 19, 20, 21]) (.block 2 (.loop [0, 3, 4, 7, 8, 9, 19, 20, 21] (.seq (.run [.op (some 22) none (.bin .lss (.tmp 21) (.tmp 20))] [0, 3, 4, 7, 8, 9, 19, 20, 21, 22]) (.seq (.cond (.tmp 22) .skip (.exit 2)) (.seq (.block 3 (.seq (.run [.op (some 23) none (.mov (.tmp 21)), .op (some 24) none (.iaV 4 (.tmp 19) (.tmp 21)), .op (some 25) none (.ldN 4 (.tmp 24)), .op (some 6) none (.new [(.int .i64 0), (.int .i64 0), (.int .u64 0), (.bool false)]), .op (some 5) none (.mov (.tmp 23)), .op none none (.st 4 (.tmp 6) (.tmp 25))] [0, 3, 4, 5, 6, 7, 8, 9, 19, 20, 21]) (.seq (.run [.op (some 26) none (.mov (.tmp 3)), .op (some 27) none (.mov (.tmp 5)), .op (some 28) none (.bin .neq (.tmp 26) (.tmp 27)), .op (some 29) none (.mov (.tmp 28)), .op (some 30) (some (29, true)) (.fa 3 (.tmp 4)), .op (some 31) (some (29, true)) (.ld1 (.tmp 30)), .op (some 32) (some (29, true)) (.un .not (.tmp 31)), .op (some 33) none (.pick (.tmp 29) (.tmp 32) (.const (.bool false))), .op (some 34) none (.mov (.tmp 33)), .op (some 35) (some (34, true)) (.fa 3 (.tmp 6)), .op (some 36) (some (34, true)) (.ld1 (.tmp 35)), .op (some 37) (some (34, true)) (.un .not (.tmp 36)), .op (some 38) none (.pick (.tmp 34) (.tmp 37) (.const (.bool false))), .op (some 39) none (.mov (.tmp 38)), .op (some 40) (some (39, true)) (.fa 2 (.tmp 4)), .op (some 41) (some (39, true)) (.ld1 (.tmp 40)), .op (some 42) (some (39, true)) (.fa 2 (.tmp 6)), .op (some 43) (some (39, true)) (.ld1 (.tmp 42)), .op (some 44) (some (39, true)) (.bin .eql (.tmp 41) (.tmp 43)), .op (some 45) none (.pick (.tmp 39) (.tmp 44) (.const (.bool false))), .op (some 46) none (.mov (.tmp 45)), .op (some 47) (some (46, false)) (.fa 1 (.tmp 4)), .op (some 48) (some (46, false)) (.ld1 (.tmp 47)), .op (some 49) (some (46, false)) (.fa 0 (.tmp 6)), .op (some 50) (some (46, false)) (.ld1 (.tmp 49)), .op (some 51) (some (46, false)) (.bin .lss (.tmp 48) (.tmp 50)), .op (some 52) (some (46, false)) (.mov (.tmp 51)), .op (some 53) (some (52, true)) (.ldN 4 (.tmp 4)), .op (some 54) (some (52, true)) (.ldN 4 (.tmp 6)), .call (some 55) (some (52, true)) (.fn 13) [(.tmp 53), (.tmp 54)], .op (some 56) (some (52, true)) (.un .not (.tmp 55)), .op (some 57) (some (46, false)) (.pick (.tmp 52) (.tmp 56) (.const (.bool false))), .op (some 58) none (.pick (.tmp 46) (.const (.bool true)) (.tmp 57))] [0, 3, 4, 7, 8, 9, 19, 20, 21, 58]) (.cond (.tmp 58) (.seq (.run [.op (some 2) none (.mov (.const (.bool false)))] [2]) .ret) .skip)))) (.run [.op (some 59) none (.bin .add (.tmp 21) (.const (.int .i64 1))), .op (some 21) none (.mov (.tmp 59))] [0, 3, 4, 7, 8, 9, 19, 20, 21])))))))))) (.run [.op (some 60) none (.bin .add (.tmp 9) (.const (.int .i64 1))), .op (some 9) none (.mov (.tmp 60))] [0, 7, 8, 9]))))
def env1 (n c i : Nat) : Env := [(0, Sv n c), (7, Sv n c), (8, .int .i64 n), (9, .int .i64 i)]
def badIn (l : List JOp) (i : Nat) (x : JOp) : Bool := ((l.drop 0).zipIdx 0).any (fun q => bad i q.2 x q.1)
def badRow (l : List JOp) (i : Nat) (x : JOp) : Bool := decide (x.a > x.t) || badIn l i x
theorem outer_body (T : Tr11 tab) {l : List JOp} {c i : Nat} {x : JOp} {h : H} (hn : l.length < 9223372036854775808) (I : HI l h) (hi : i < l.length) (hx : l[i]? = some x) :
    ∃ h2, HI l h2 ∧ RanC tab body1 (env1 l.length c i) h (if badRow l i x then .ret else .norm) (if badRow l i x then [(2, .bool false)] else env1 l.length c (i + 1)) h2 := by
  have hl := lds_l I hx
  have hs := sts_new h x
  have Ip := HP.new h x
  have gp := Ip.g
  have hw0 : IntKind.i64.wrap ((i : Int) + 1) = ((i + 1 : Nat) : Int) := by rw [IntKind.wrap_i64]; omega
  have hw : Value.int .i64 (IntKind.i64.wrap ((i : Int) + 1)) = Value.int .i64 ((i + 1 : Nat) : Int) := by rw [hw0]
  have hlt : (Value.bool (decide ((i : Int) < (l.length : Int)))) = Value.bool true := by simp; omega
  obtain ⟨h2, J1, J2, hin⟩ := inner_loop T (c := c) (i := i) hn l.length 0 _ (by omega) (I.add x) Ip I.lt
  unfold badRow
  by_cases hat : x.a > x.t
  · have c18 : Value.bool (decide (x.a > x.t)) = Value.bool true := by simp [hat]
    have e1 : (decide (x.a > x.t) || badIn l i x) = true := by simp [hat]
    rw [e1]
    exact ⟨_, I.add x, (.seq (.run [(0, _), (7, _), (8, _), (9, _), (10, _)] (.op rfl (op_val rfl hlt) .nil) rfl) (.seq (.condT rfl .skip) (.seqR (.blockR (.seq (.run [(0, _), (3, _), (4, _), (7, _), (8, _), (9, _)] (.op rfl rfl (.op rfl (op_iaV i rfl rfl hi) (.op rfl (op_ldN rfl hl) (.op rfl (op_new h.next rfl) (.op rfl rfl (.op rfl (op_st rfl rfl rfl hs) .nil)))))) rfl) (.seqR (.seq (.run [(0, _), (3, _), (4, _), (7, _), (8, _), (9, _), (18, _)] (.op rfl rfl (.op rfl (op_ld1 rfl (ld_at gp rfl)) (.op rfl rfl (.op rfl (op_ld1 rfl (ld_at gp rfl)) (.op rfl (op_val rfl c18) .nil))))) rfl) (.condT rfl (.seq (.run [(2, _)] (.op rfl rfl .nil) rfl) .ret)))))))))⟩
  · have c18 : Value.bool (decide (x.a > x.t)) = Value.bool false := by simp [hat]
    have e1 : (decide (x.a > x.t) || badIn l i x) = badIn l i x := by simp [hat]
    rw [e1]
    have e2 : ((l.drop 0).zipIdx 0).any (fun q => bad i q.2 x q.1) = badIn l i x := rfl
    rw [e2] at hin
    cases hb : badIn l i x with
    | true =>
      rw [hb] at hin
      exact ⟨h2, J1, (.seq (.run [(0, _), (7, _), (8, _), (9, _), (10, _)] (.op rfl (op_val rfl hlt) .nil) rfl) (.seq (.condT rfl .skip) (.seqR (.blockR (.seq (.run [(0, _), (3, _), (4, _), (7, _), (8, _), (9, _)] (.op rfl rfl (.op rfl (op_iaV i rfl rfl hi) (.op rfl (op_ldN rfl hl) (.op rfl (op_new h.next rfl) (.op rfl rfl (.op rfl (op_st rfl rfl rfl hs) .nil)))))) rfl) (.seq (.seq (.run [(0, _), (3, _), (4, _), (7, _), (8, _), (9, _), (18, _)] (.op rfl rfl (.op rfl (op_ld1 rfl (ld_at gp rfl)) (.op rfl rfl (.op rfl (op_ld1 rfl (ld_at gp rfl)) (.op rfl (op_val rfl c18) .nil))))) rfl) (.condF rfl .skip)) (.seq (.run [(0, _), (3, _), (4, _), (7, _), (8, _), (9, _), (19, _), (20, _), (21, _)] (.op rfl rfl (.op rfl rfl (.op rfl rfl .nil))) rfl) (.blockR hin))))))))⟩
    | false =>
      rw [hb] at hin
      exact ⟨h2, J1, (.seq (.run [(0, _), (7, _), (8, _), (9, _), (10, _)] (.op rfl (op_val rfl hlt) .nil) rfl) (.seq (.condT rfl .skip) (.seq (.blockN (.seq (.run [(0, _), (3, _), (4, _), (7, _), (8, _), (9, _)] (.op rfl rfl (.op rfl (op_iaV i rfl rfl hi) (.op rfl (op_ldN rfl hl) (.op rfl (op_new h.next rfl) (.op rfl rfl (.op rfl (op_st rfl rfl rfl hs) .nil)))))) rfl) (.seq (.seq (.run [(0, _), (3, _), (4, _), (7, _), (8, _), (9, _), (18, _)] (.op rfl rfl (.op rfl (op_ld1 rfl (ld_at gp rfl)) (.op rfl rfl (.op rfl (op_ld1 rfl (ld_at gp rfl)) (.op rfl (op_val rfl c18) .nil))))) rfl) (.condF rfl .skip)) (.seq (.run [(0, _), (3, _), (4, _), (7, _), (8, _), (9, _), (19, _), (20, _), (21, _)] (.op rfl rfl (.op rfl rfl (.op rfl rfl .nil))) rfl) (.blockE hin))))) (.run [(0, _), (7, _), (8, _), (9, _)] (.op rfl (op_val rfl hw) (.op rfl rfl .nil)) rfl))))⟩
theorem outer_loop (T : Tr11 tab) {l : List JOp} {c : Nat} (hn : l.length < 9223372036854775808) : ∀ (k i : Nat) (h : H), i + k = l.length → HI l h →
    ∃ h2, HI l h2 ∧ RanC tab (.loop keep1 body1) (env1 l.length c i) h (if (l.drop i).zipIdx i |>.any (fun q => badRow l q.2 q.1) then .ret else .exit 0)
      (if (l.drop i).zipIdx i |>.any (fun q => badRow l q.2 q.1) then [(2, .bool false)] else env1 l.length c l.length ++ [(10, .bool false)]) h2 := by
  intro k
  induction k with
  | zero =>
    intro i h hi I
    have e1 : i = l.length := by omega
    subst e1
    refine ⟨h, I, ?_⟩
    rw [List.drop_length]
    have hlt : (Value.bool (decide ((l.length : Int) < (l.length : Int)))) = Value.bool false := by simp
    exact (.loopE rfl (.seq (.run [(0, _), (7, _), (8, _), (9, _), (10, _)] (.op rfl (op_val rfl hlt) .nil) rfl) (.seqE (.condF rfl .exit))))
  | succ k ih =>
    intro i h hi I
    have hil : i < l.length := by omega
    obtain ⟨h1, I1, hb⟩ := outer_body T (c := c) hn I hil (List.getElem?_eq_getElem hil)
    have hd : l.drop i = l[i] :: l.drop (i + 1) := List.drop_eq_getElem_cons hil
    rw [hd, List.zipIdx_cons, List.any_cons]
    cases hbad : badRow l i l[i] with
    | true =>
      rw [hbad] at hb
      exact ⟨_, I1, .loopR rfl hb⟩
    | false =>
      rw [hbad] at hb
      obtain ⟨h2, g1, g2⟩ := ih (i + 1) _ (by omega) I1
      exact ⟨h2, g1, .loop rfl hb g2⟩
/-- May they have been done in that order? -/
def rightB (l : List JOp) : Bool := !((l.drop 0).zipIdx 0).any (fun q => badRow l q.2 q.1)
theorem right_ran (T : Tr11 tab) {l : List JOp} {c : Nat} (hn : l.length < 9223372036854775808) {h : H} (I : HI l h) : ∃ h2, Ran tab 11 [Sv l.length c] h (.bool (rightB l)) h2 := by
  refine Ran.codeR' [.bool (rightB l)] [(2, .bool (rightB l))] T.t11 rfl ?_ (fun _ => rfl)
  obtain ⟨h2, _, hr⟩ := outer_loop T (c := c) hn l.length 0 h (by omega) I
  unfold rightB
  cases hb : ((l.drop 0).zipIdx 0).any (fun q => badRow l q.2 q.1) with
  | true =>
    rw [hb] at hr
    exact ⟨h2, (.seq (.run [(0, _)] (.op rfl rfl .nil) rfl) (.seqR (.seq (.run [(0, _), (7, _), (8, _), (9, _)] (.op rfl rfl (.op rfl rfl (.op rfl rfl .nil))) rfl) (.blockR hr))))⟩
  | false =>
    rw [hb] at hr
    exact ⟨h2, (.seq (.run [(0, _)] (.op rfl rfl .nil) rfl) (.seq (.seq (.run [(0, _), (7, _), (8, _), (9, _)] (.op rfl rfl (.op rfl rfl (.op rfl rfl .nil))) rfl) (.blockE hr)) (.seq (.run [(2, _)] (.op rfl rfl .nil) rfl) .ret)))⟩
theorem right_nil (T : Tr11 tab) (P0 : Option Addr) (c : Nat) (h : H) : ∃ h2, Ran tab 11 [.slice P0 0 c] h (.bool true) h2 := by
  refine Ran.codeR' [.bool true] [(2, .bool true)] T.t11 rfl ?_ (fun _ => rfl)
  exact ⟨_, (.seq (.run [(0, _)] (.op rfl rfl .nil) rfl) (.seq (.seq (.run [(0, _), (7, _), (8, _), (9, _)] (.op rfl rfl (.op rfl rfl (.op rfl rfl .nil))) rfl) (.blockE (.loopE rfl (.seq (.run [(0, _), (7, _), (8, _), (9, _), (10, _)] (.op rfl rfl .nil) rfl) (.seqE (.condF rfl .exit)))))) (.seq (.run [(2, _)] (.op rfl rfl .nil) rfl) .ret)))⟩
def parse : List Value → Option (List JOp)
  | [] => some []
  | .int .i64 a :: .int .i64 t :: .int .u64 s :: .bool r :: rest => match parse rest with
    | some l => some (⟨a, t, s, r⟩ :: l)
    | none => none
  | _ => none
theorem parse_flat : ∀ l : List JOp, parse (flat l) = some l := by
  intro l
  induction l with
  | nil => rfl
  | cons x l ih =>
    have : flat (x :: l) = .int .i64 x.a :: .int .i64 x.t :: .int .u64 x.s :: .bool x.r :: flat l := rfl
    rw [this]; simp only [parse, ih]
theorem parse_inv : ∀ (n : Nat) (cs : List Value) (l : List JOp), cs.length ≤ n → parse cs = some l → cs = flat l := by
  intro n
  induction n with
  | zero =>
    intro cs l hn h
    have : cs = [] := List.eq_nil_of_length_eq_zero (by omega)
    subst this; simp only [parse] at h; cases h; rfl
  | succ n ih =>
    intro cs l hn h
    unfold parse at h
    split at h
    · cases h; rfl
    · rename_i a t s r rest
      split at h
      · rename_i l' hl; cases h
        have := ih rest l' (by simp only [List.length_cons] at hn; omega) hl
        rw [this]; rfl
      · cases h
    · cases h
def gR (us : List Value) (h : H) : Option (Value × H) :=
  match us with
  | [.slice none n c] => if n = 0 ∧ c = 0 then some (.bool true, h) else none
  | [.slice (some a) n c] => if n = 0 ∧ c = 1 then some (.bool true, h) else match h.get a.block with
    | some B => match parse B.cells with
      | some l => if a.off = 0 ∧ a.spot = none ∧ B.es = 4 ∧ l.length = n ∧ n < 9223372036854775808 then some (.bool (rightB l), h) else none
      | none => none
    | none => none
  | _ => none
theorem rightB_nil : rightB [] = true := rfl
theorem op_app {e : Env} {h : H} {x y : Operand} {a b : Value} {es bytes : Nat} {r : Value × H} (hx : ev e x = some a) (hy : ev e y = some b) (ha : appE h none es bytes a b = some r) : opE (.app es bytes x y) e h none = some r := by
  simp only [opE, hx, hy]; exact ha
theorem op_bin {e : Env} {h : H} {x y : Operand} {a b v : Value} {op : BinOp} (hx : ev e x = some a) (hy : ev e y = some b) (hv : binV op a b = some v) : opE (.bin op x y) e h none = some (v, h) := by
  simp only [opE, hx, hy, hv]
/-- A slice of the law's own. -/
inductive OS (h : H) : Value → List JOp → Prop
  | nil : OS h (.slice none 0 0) []
  | row (p : Nat) (L : List JOp) (hg : h.get p = some ⟨flat L, 4, false⟩) (h2 : 2 ≤ p) (hl : p < h.next) (hne : L ≠ []) : OS h (.slice (some ⟨p, 0, none⟩) L.length (2 * L.length)) L
def own (v : Value) (p : Nat) : Prop := ∃ n c, v = .slice (some ⟨p, 0, none⟩) n c
theorem OS.keep {h h' : H} {v : Value} {L : List JOp} (O : OS h v L) (hk : ∀ p, own v p → p < h.next → h'.get p = h.get p) (hn : h.next ≤ h'.next) : OS h' v L := by
  cases O with
  | nil => exact .nil
  | row p L hg h2 hl hne => exact .row p L (by rw [hk p ⟨_, _, rfl⟩ hl]; exact hg) h2 (by omega) hne
theorem OS.lt {h : H} {v : Value} {L : List JOp} (O : OS h v L) {p : Nat} (hp : own v p) : 2 ≤ p ∧ p < h.next := by
  obtain ⟨n, c, rfl⟩ := hp
  cases O with
  | row p L hg h2 hl hne => exact ⟨h2, hl⟩
theorem OS.gR {h : H} {v : Value} {L : List JOp} (O : OS h v L) (hL : L.length < 9223372036854775808) : Jd.gR [v] h = some (.bool (rightB L), h) := by
  cases O with
  | nil => rfl
  | row p L hg h2 hl hne => simp only [Jd.gR, hg, parse_flat]; rw [if_neg (by omega), if_pos ⟨trivial, trivial, trivial, trivial, hL⟩]
theorem flat_append (l m : List JOp) : flat (l ++ m) = flat l ++ flat m := by simp [flat]
theorem flat_one (x : JOp) : flat [x] = x.cells := by simp [flat]
theorem all_cells (x : JOp) : x.cells.all (·.oneCell') = true := rfl
theorem app_os {h : H} {v : Value} {L : List JOp} (O : OS h v L) (hL : L.length < 1000) (y : JOp) {s : Nat} (hs : h.get s = some ⟨y.cells, 4, false⟩) (hsl : s < h.next) (h1 : 2 ≤ h.next) :
    ∃ v' h', appE h none 4 32 v (.slice (some ⟨s, 0, none⟩) 1 3) = some (v', h') ∧ OS h' v' (L ++ [y]) ∧ h.next < h'.next ∧ (∀ p, own v' p → p = h.next) ∧ (∀ p, p < h.next → ¬ own v p → h'.get p = h.get p) := by
  have hsrc : srcCells h 4 1 (.slice (some ⟨s, 0, none⟩) 1 3) = some y.cells := by
    simp only [srcCells]; rw [lds_at hs (by show 0 + 1 * 4 ≤ 4; omega)]; rfl
  cases O with
  | nil =>
    refine ⟨.slice (some ⟨h.next, 0, none⟩) 1 2, h.alloc ⟨y.cells, 4, false⟩, ?_, ?_, by show h.next < h.next + 1; omega, ?_, ?_⟩
    · simp only [appE, srcLen, hsrc]; rw [if_neg (by omega), if_pos ⟨by omega, by omega, all_cells y⟩]; rfl
    · have := OS.row (h := h.alloc ⟨y.cells, 4, false⟩) h.next [y] (by rw [flat_one]; exact H.get_new ..) h1 (by show h.next < h.next + 1; omega) (by simp)
      exact this
    · rintro p ⟨n, c, hp⟩; simp at hp; exact hp.1.symm
    · intro p hp _; rw [H.get_alloc, if_neg (by omega)]
  | row p L hg h2 hl hne =>
    refine ⟨.slice (some ⟨h.next, 0, none⟩) (L.length + 1) (2 * (L.length + 1)), (h.set p none).alloc ⟨flat L ++ y.cells, 4, false⟩, ?_, ?_, by show h.next < h.next + 1; omega, ?_, ?_⟩
    · simp only [appE, srcLen, hsrc]
      rw [if_neg (by omega), if_pos ⟨by omega, by omega, all_cells y⟩, lds_at hg (by rw [flat_length]; simp)]
      simp only
      rw [if_neg (by omega)]
      simp only [hg]
      rw [if_pos ⟨trivial, trivial, trivial⟩]
      have : ((flat L).drop 0).take (L.length * 4) = flat L := by rw [List.drop_zero, List.take_of_length_le (by rw [flat_length]; omega)]
      rw [this]
    · have := OS.row (h := (h.set p none).alloc ⟨flat L ++ y.cells, 4, false⟩) h.next (L ++ [y]) (by rw [flat_append, flat_one]; exact H.get_new (h.set p none) _) h1 (by show h.next < h.next + 1; omega) (by simp)
      rw [List.length_append] at this; exact this
    · rintro q ⟨n, c, hq⟩; simp at hq; exact hq.1.symm
    · intro q hq hno
      have hqp : q ≠ p := fun e => hno ⟨_, _, by rw [e]⟩
      rw [H.get_alloc, H.next_set, if_neg (by omega), H.get_set, if_neg hqp]

structure ST (z : Bool) (l : List JOp) (kb : List Bool) (h : H) (vt vp : Value) (Lt Lp : List JOp) : Prop where
  hi : z = true → h.get 0 = some ⟨flat l, 4, true⟩
  hk : kb ≠ [] → h.get 1 = some ⟨kb.map Value.bool, 1, true⟩
  t : OS h vt Lt
  p : OS h vp Lp
  d : ∀ q, own vt q → ¬ own vp q
  n : 2 ≤ h.next
theorem ST.swap {z : Bool} {l : List JOp} {kb : List Bool} {h : H} {vt vp : Value} {Lt Lp : List JOp} (S : ST z l kb h vt vp Lt Lp) : ST z l kb h vp vt Lp Lt := ⟨S.hi, S.hk, S.p, S.t, fun q a b => S.d q b a, S.n⟩
theorem ST.app {z : Bool} {l : List JOp} {kb : List Bool} {h : H} {vt vp : Value} {Lt Lp : List JOp} (S : ST z l kb h vt vp Lt Lp) (hL : Lt.length < 1000) (y : JOp) :
    ∃ v' h', appE (h.alloc ⟨y.cells, 4, false⟩) none 4 32 vt (.slice (some ⟨h.next, 0, none⟩) 1 3) = some (v', h') ∧ ST z l kb h' v' vp (Lt ++ [y]) Lp := by
  have hn := S.n
  have hnx : (h.alloc ⟨y.cells, 4, false⟩).next = h.next + 1 := rfl
  have old : ∀ q, q < h.next → (h.alloc ⟨y.cells, 4, false⟩).get q = h.get q := fun q hq => by rw [H.get_alloc, if_neg (by omega)]
  have Ot : OS (h.alloc ⟨y.cells, 4, false⟩) vt Lt := S.t.keep (fun q _ hq => old q hq) (by omega)
  obtain ⟨v', h', e1, e2, e3, e4, e5⟩ := app_os Ot hL y (H.get_new h _) (by omega) (by omega)
  have keep : ∀ q, q < h.next → ¬ own vt q → h'.get q = h.get q := fun q hq ho => by rw [e5 q (by omega) ho, old q hq]
  refine ⟨v', h', e1, ⟨fun hl => ?_, fun hk => ?_, e2, S.p.keep (fun q ho hq => keep q hq (fun ht => S.d q ht ho)) (by omega), fun q ho hp => ?_, by omega⟩⟩
  · rw [keep 0 (by omega) (fun ho => by have := (S.t.lt ho).1; omega)]; exact S.hi hl
  · rw [keep 1 (by omega) (fun ho => by have := (S.t.lt ho).1; omega)]; exact S.hk hk
  · have := e4 q ho; have := (S.p.lt hp).2; omega
structure Tl (tab : Nat → Option FD) : Prop where
  t6 : tab 6 = some (.code ir6)
  t11 : tab 11 = some (.spec gR)
  t7 : tab 7 = some (.spec (fun us h => if us = [] then some (.bool true, h) else none))
def keep3 : List Nat := [0, 1, 2, 7, 8, 9]
def body3 : IC := (.seq (.seq (.run [.op (some 15) none (.mov (.tmp 9)), .op (some 16) none (.mov (.tmp 0)), .op (some 17) none (.lenV (.tmp 16)), .op (some 18) none (.bin .lss (.tmp 15) (.tmp 17))] [0, 1, 2, 7, 8, 9, 18]) (.cond (.tmp 18) .skip (.exit 0))) (.seq (.block 1 (.seq (.run [.op (some 21) none (.mov (.tmp 7)), .op (some 22) none (.mov (.tmp 0)), .op (some 23) none (.mov (.tmp 9)), .op (some 24) none (.mov (.tmp 1)), .op (some 25) none (.cvI .i64 (.tmp 24)), .op (some 26) none (.bin .add (.tmp 23) (.tmp 25)), .op (some 27) none (.mov (.tmp 0)), .op (some 28) none (.lenV (.tmp 27)), .op (some 29) none (.bin .rem (.tmp 26) (.tmp 28)), .op (some 30) none (.iaV 4 (.tmp 22) (.tmp 29)), .op (some 31) none (.ldN 4 (.tmp 30)), .op (some 32) none (.bsl 4 1 [(.int .i64 0), (.int .i64 0), (.int .u64 0), (.bool false)] [(0, 4, (.tmp 31))]), .op (some 33) none (.app 4 32 (.tmp 21) (.tmp 32)), .op (some 7) none (.mov (.tmp 33))] [0, 1, 2, 7, 8, 9]) (.seq (.run [.op (some 34) none (.mov (.tmp 9)), .op (some 35) none (.mov (.tmp 2)), .op (some 36) none (.lenV (.tmp 35)), .op (some 37) none (.bin .lss (.tmp 34) (.tmp 36)), .op (some 38) none (.mov (.tmp 37)), .op (some 39) (some (38, true)) (.mov (.tmp 2)), .op (some 40) (some (38, true)) (.mov (.tmp 9)), .op (some 41) (some (38, true)) (.iaV 1 (.tmp 39) (.tmp 40)), .op (some 42) (some (38, true)) (.ld1 (.tmp 41)), .op (some 43) none (.pick (.tmp 38) (.tmp 42) (.const (.bool false)))] [0, 1, 2, 7, 8, 9, 43]) (.cond (.tmp 43) (.run [.op (some 44) none (.mov (.tmp 8)), .op (some 45) none (.mov (.tmp 0)), .op (some 46) none (.mov (.tmp 9)), .op (some 47) none (.iaV 4 (.tmp 45) (.tmp 46)), .op (some 48) none (.ldN 4 (.tmp 47)), .op (some 49) none (.bsl 4 1 [(.int .i64 0), (.int .i64 0), (.int .u64 0), (.bool false)] [(0, 4, (.tmp 48))]), .op (some 50) none (.app 4 32 (.tmp 44) (.tmp 49)), .op (some 8) none (.mov (.tmp 50))] [0, 1, 2, 7, 8, 9]) .skip)))) (.run [.op (some 19) none (.mov (.tmp 9)), .op (some 20) none (.bin .add (.tmp 19) (.const (.int .i64 1))), .op (some 9) none (.mov (.tmp 20))] [0, 1, 2, 7, 8, 9])))
def env3 (V0 : Value) (turn : Nat) (V2 vt vp : Value) (i : Nat) : Env := [(0, V0), (1, .int .u8 turn), (2, V2), (7, vt), (8, vp), (9, .int .i64 i)]
def more (kb : List Bool) (i : Nat) (x : JOp) : List JOp := if kb[i]? = some true then [x] else []
theorem body3_ran (T : Tl tab) {z : Bool} {l : List JOp} {kb : List Bool} {h : H} {vt vp : Value} {Lt Lp : List JOp} {c turn i m c2 : Nat} {P2 : Option Addr} {x y : JOp} (S : ST z l kb h vt vp Lt Lp) (hz : l ≠ [] → z = true) (hn : l.length ≤ 60) (htn : turn < 256) (hm : m = kb.length) (hm2 : kb ≠ [] → P2 = some ⟨1, 0, none⟩)
    (hi : i < l.length) (hx : l[i]? = some x) (hy : l[(i + turn) % l.length]? = some y) (hLt : Lt.length < 1000) (hLp : Lp.length < 1000) :
    ∃ vt' vp' h', RanC tab body3 (env3 (Sv l.length c) turn (.slice P2 m c2) vt vp i) h .norm (env3 (Sv l.length c) turn (.slice P2 m c2) vt' vp' (i + 1)) h' ∧ ST z l kb h' vt' vp' (Lt ++ [y]) (Lp ++ more kb i x) := by
  have hne : l ≠ [] := by intro e; subst e; simp at hi
  have I : HI l h := ⟨S.hi (hz hne), by have := S.n; omega⟩
  obtain ⟨vt', h1, a1, S1⟩ := S.app hLt y
  have I1 : HI l h1 := ⟨S1.hi (hz hne), by have := S1.n; omega⟩
  obtain ⟨vp', h2, a2, S2⟩ := S1.swap.app hLp x
  have hmod : (i + turn) % l.length < l.length := Nat.mod_lt _ (by omega)
  have hw0 : IntKind.i64.wrap ((i : Int) + 1) = ((i + 1 : Nat) : Int) := by rw [IntKind.wrap_i64]; omega
  have hw : Value.int .i64 (IntKind.i64.wrap ((i : Int) + 1)) = Value.int .i64 ((i + 1 : Nat) : Int) := by rw [hw0]
  have hlt : (Value.bool (decide ((i : Int) < (l.length : Int)))) = Value.bool true := by simp; omega
  have c25 : Value.int .i64 (IntKind.i64.wrap (turn : Int)) = Value.int .i64 (turn : Int) := by
    have : IntKind.i64.wrap (turn : Int) = (turn : Int) := by rw [IntKind.wrap_i64]; omega
    rw [this]
  have c26 : Value.int .i64 (IntKind.i64.wrap ((i : Int) + (turn : Int))) = Value.int .i64 ((i + turn : Nat) : Int) := by
    have : IntKind.i64.wrap ((i : Int) + (turn : Int)) = ((i + turn : Nat) : Int) := by rw [IntKind.wrap_i64]; omega
    rw [this]
  have c29 : binV .rem (.int .i64 ((i + turn : Nat) : Int)) (.int .i64 (l.length : Int)) = some (.int .i64 (((i + turn) % l.length : Nat) : Int)) := by
    simp only [binV]; rw [if_neg (by simp), if_neg (by omega)]; rfl
  have l31 := lds_l I hy
  have l48 := lds_l I1 hx
  by_cases hki : i < kb.length
  · have hkne : kb ≠ [] := by intro e; subst e; simp at hki
    obtain rfl := hm2 hkne
    have him : i < m := by omega
    have c37 : (Value.bool (decide ((i : Int) < (m : Int)))) = Value.bool true := by simp; omega
    cases hb : kb[i] with
    | true =>
      have g1 : h1.ld ⟨1, 0 + i * 1, none⟩ = some (.bool true) := ld_at (S1.hk hkne) (by simp [List.getElem?_eq_getElem hki, hb])
      have e1 : more kb i x = [x] := by simp [more, List.getElem?_eq_getElem hki, hb]
      rw [e1]
      exact ⟨vt', vp', h2, (.seq (.seq (.run [(0, _), (1, _), (2, _), (7, _), (8, _), (9, _), (18, _)] (.op rfl rfl (.op rfl rfl (.op rfl rfl (.op rfl (op_val rfl hlt) .nil)))) rfl) (.condT rfl .skip)) (.seq (.blockN (.seq (.run [(0, _), (1, _), (2, _), (7, _), (8, _), (9, _)] (.op rfl rfl (.op rfl rfl (.op rfl rfl (.op rfl rfl (.op rfl (op_val rfl c25) (.op rfl (op_val rfl c26) (.op rfl rfl (.op rfl rfl (.op rfl (op_bin rfl rfl c29) (.op rfl (op_iaV _ rfl rfl hmod) (.op rfl (op_ldN rfl l31) (.op rfl (op_bsl h.next rfl rfl rfl rfl) (.op rfl (op_app rfl rfl a1) (.op rfl rfl .nil)))))))))))))) rfl) (.seq (.run [(0, _), (1, _), (2, _), (7, _), (8, _), (9, _), (43, _)] (.op rfl rfl (.op rfl rfl (.op rfl rfl (.op rfl (op_val rfl c37) (.op rfl rfl (.op rfl rfl (.op rfl rfl (.op rfl (op_iaV i rfl rfl him) (.op rfl (op_ld1 rfl g1) (.op rfl rfl .nil)))))))))) rfl) (.condT rfl (.run [(0, _), (1, _), (2, _), (7, _), (8, _), (9, _)] (.op rfl rfl (.op rfl rfl (.op rfl rfl (.op rfl (op_iaV i rfl rfl hi) (.op rfl (op_ldN rfl l48) (.op rfl (op_bsl h1.next rfl rfl rfl rfl) (.op rfl (op_app rfl rfl a2) (.op rfl rfl .nil)))))))) rfl))))) (.run [(0, _), (1, _), (2, _), (7, _), (8, _), (9, _)] (.op rfl rfl (.op rfl (op_val rfl hw) (.op rfl rfl .nil))) rfl))), S2.swap⟩
    | false =>
      have g1 : h1.ld ⟨1, 0 + i * 1, none⟩ = some (.bool false) := ld_at (S1.hk hkne) (by simp [List.getElem?_eq_getElem hki, hb])
      have e1 : more kb i x = [] := by simp [more, List.getElem?_eq_getElem hki, hb]
      rw [e1, List.append_nil]
      exact ⟨vt', vp, h1, (.seq (.seq (.run [(0, _), (1, _), (2, _), (7, _), (8, _), (9, _), (18, _)] (.op rfl rfl (.op rfl rfl (.op rfl rfl (.op rfl (op_val rfl hlt) .nil)))) rfl) (.condT rfl .skip)) (.seq (.blockN (.seq (.run [(0, _), (1, _), (2, _), (7, _), (8, _), (9, _)] (.op rfl rfl (.op rfl rfl (.op rfl rfl (.op rfl rfl (.op rfl (op_val rfl c25) (.op rfl (op_val rfl c26) (.op rfl rfl (.op rfl rfl (.op rfl (op_bin rfl rfl c29) (.op rfl (op_iaV _ rfl rfl hmod) (.op rfl (op_ldN rfl l31) (.op rfl (op_bsl h.next rfl rfl rfl rfl) (.op rfl (op_app rfl rfl a1) (.op rfl rfl .nil)))))))))))))) rfl) (.seq (.run [(0, _), (1, _), (2, _), (7, _), (8, _), (9, _), (43, _)] (.op rfl rfl (.op rfl rfl (.op rfl rfl (.op rfl (op_val rfl c37) (.op rfl rfl (.op rfl rfl (.op rfl rfl (.op rfl (op_iaV i rfl rfl him) (.op rfl (op_ld1 rfl g1) (.op rfl rfl .nil)))))))))) rfl) (.condF rfl .skip)))) (.run [(0, _), (1, _), (2, _), (7, _), (8, _), (9, _)] (.op rfl rfl (.op rfl (op_val rfl hw) (.op rfl rfl .nil))) rfl))), S1⟩
  · have c37 : (Value.bool (decide ((i : Int) < (m : Int)))) = Value.bool false := by simp; omega
    have e1 : more kb i x = [] := by simp [more, List.getElem?_eq_none (by omega : kb.length ≤ i)]
    rw [e1, List.append_nil]
    exact ⟨vt', vp, h1, (.seq (.seq (.run [(0, _), (1, _), (2, _), (7, _), (8, _), (9, _), (18, _)] (.op rfl rfl (.op rfl rfl (.op rfl rfl (.op rfl (op_val rfl hlt) .nil)))) rfl) (.condT rfl .skip)) (.seq (.blockN (.seq (.run [(0, _), (1, _), (2, _), (7, _), (8, _), (9, _)] (.op rfl rfl (.op rfl rfl (.op rfl rfl (.op rfl rfl (.op rfl (op_val rfl c25) (.op rfl (op_val rfl c26) (.op rfl rfl (.op rfl rfl (.op rfl (op_bin rfl rfl c29) (.op rfl (op_iaV _ rfl rfl hmod) (.op rfl (op_ldN rfl l31) (.op rfl (op_bsl h.next rfl rfl rfl rfl) (.op rfl (op_app rfl rfl a1) (.op rfl rfl .nil)))))))))))))) rfl) (.seq (.run [(0, _), (1, _), (2, _), (7, _), (8, _), (9, _), (43, _)] (.op rfl rfl (.op rfl rfl (.op rfl rfl (.op rfl (op_val rfl c37) (.op rfl rfl (.off rfl (.off rfl (.off rfl (.off rfl (.op rfl rfl .nil)))))))))) rfl) (.condF rfl .skip)))) (.run [(0, _), (1, _), (2, _), (7, _), (8, _), (9, _)] (.op rfl rfl (.op rfl (op_val rfl hw) (.op rfl rfl .nil))) rfl))), S1⟩

def el (l : List JOp) (k : Nat) : JOp := (l[k]?).getD ⟨0, 0, 0, false⟩
theorem el_get {l : List JOp} {k : Nat} (h : k < l.length) : l[k]? = some (el l k) := by simp [el, List.getElem?_eq_getElem h]
def turnL (l : List JOp) (turn i : Nat) : List JOp := (List.range i).map fun k => el l ((k + turn) % l.length)
def partL (l : List JOp) (kb : List Bool) (i : Nat) : List JOp := (List.range i).flatMap fun k => more kb k (el l k)
theorem turnL_length (l : List JOp) (turn i : Nat) : (turnL l turn i).length = i := by simp [turnL]
theorem turnL_succ (l : List JOp) (turn i : Nat) : turnL l turn (i + 1) = turnL l turn i ++ [el l ((i + turn) % l.length)] := by simp [turnL, List.range_succ]
theorem partL_succ (l : List JOp) (kb : List Bool) (i : Nat) : partL l kb (i + 1) = partL l kb i ++ more kb i (el l i) := by simp [partL, List.range_succ]
theorem partL_length (l : List JOp) (kb : List Bool) : ∀ i, (partL l kb i).length ≤ i := by
  intro i
  induction i with
  | zero => simp [partL]
  | succ i ih =>
    rw [partL_succ, List.length_append]
    have : (more kb i (el l i)).length ≤ 1 := by unfold more; split <;> simp
    omega
theorem loop3_ran (T : Tl tab) {z : Bool} {l : List JOp} {kb : List Bool} {turn m c c2 : Nat} {P0 P2 : Option Addr} (hz : l ≠ [] → z = true ∧ P0 = some ⟨0, 0, none⟩) (hn : l.length ≤ 60) (htn : turn < 256) (hm : m = kb.length) (hm2 : kb ≠ [] → P2 = some ⟨1, 0, none⟩) :
    ∀ (k i : Nat) (h : H) (vt vp : Value), i + k = l.length → ST z l kb h vt vp (turnL l turn i) (partL l kb i) →
    ∃ vt' vp' h', RanC tab (.loop keep3 body3) (env3 (.slice P0 l.length c) turn (.slice P2 m c2) vt vp i) h (.exit 0) (env3 (.slice P0 l.length c) turn (.slice P2 m c2) vt' vp' l.length ++ [(18, .bool false)]) h' ∧ ST z l kb h' vt' vp' (turnL l turn l.length) (partL l kb l.length) := by
  intro k
  induction k with
  | zero =>
    intro i h vt vp hi S
    have e1 : i = l.length := by omega
    subst e1
    have hlt : (Value.bool (decide ((l.length : Int) < (l.length : Int)))) = Value.bool false := by simp
    exact ⟨vt, vp, h, (.loopE rfl (.seqE (.seq (.run [(0, _), (1, _), (2, _), (7, _), (8, _), (9, _), (18, _)] (.op rfl rfl (.op rfl rfl (.op rfl rfl (.op rfl (op_val rfl hlt) .nil)))) rfl) (.condF rfl .exit)))), S⟩
  | succ k ih =>
    intro i h vt vp hi S
    have hil : i < l.length := by omega
    have hne : l ≠ [] := by intro e; subst e; simp at hil
    obtain ⟨hz1, rfl⟩ := hz hne
    have hLt := turnL_length l turn i
    have hLp := partL_length l kb i
    obtain ⟨vt1, vp1, h1, r1, S1⟩ := body3_ran T (c := c) (turn := turn) (c2 := c2) S (fun _ => hz1) hn htn hm hm2 hil (el_get hil) (el_get (Nat.mod_lt _ (by omega))) (by omega) (by omega)
    rw [← turnL_succ, ← partL_succ] at S1
    obtain ⟨vt2, vp2, h2, r2, S2⟩ := ih (i + 1) h1 vt1 vp1 (by omega) S1
    exact ⟨vt2, vp2, h2, .loop rfl r1 r2, S2⟩
/-- The law. -/
theorem law_ran (T : Tl tab) {z : Bool} {l : List JOp} {kb : List Bool} {turn m c c2 : Nat} {P0 P2 : Option Addr} (hz : (z = false ∧ l = [] ∧ ((P0 = none ∧ c = 0) ∨ (P0 = some ⟨0, 0, none⟩ ∧ c = 1))) ∨ (z = true ∧ P0 = some ⟨0, 0, none⟩)) (hn : l.length < 9223372036854775808) (htn : turn < 256) (hm : m = kb.length) (hm2 : kb ≠ [] → P2 = some ⟨1, 0, none⟩)
    (h : H) (hi : z = true → h.get 0 = some ⟨flat l, 4, true⟩) (hk : kb ≠ [] → h.get 1 = some ⟨kb.map Value.bool, 1, true⟩) (h2 : 2 ≤ h.next) (p1 : rightB (turnL l turn l.length) = rightB l) (p2 : rightB l = true → rightB (partL l kb l.length) = true) :
    ∃ h2, Ran tab 6 [.slice P0 l.length c, .int .u8 turn, .slice P2 m c2] h (.bool true) h2 := by
  refine Ran.codeR' [.bool true] [(6, .bool true)] T.t6 rfl ?_ (fun _ => rfl)
  by_cases hg : l.length ≤ 60
  · have c13 : (Value.bool (decide ((l.length : Int) > 60))) = Value.bool false := by simp; omega
    obtain ⟨vt, vp, h', hl, S⟩ := loop3_ran T (c := c) (turn := turn) (c2 := c2) (m := m) (P0 := P0) (P2 := P2) (z := z) (fun hne => by
      rcases hz with ⟨_, q, _⟩ | q
      · exact absurd q hne
      · exact q) hg htn hm hm2 l.length 0 h (.slice none 0 0) (.slice none 0 0) (by omega) ⟨hi, hk, .nil, .nil, fun q hq => by (obtain ⟨_, _, e⟩ := hq; simp at e), h2⟩
    have r1 : gR [.slice P0 l.length c] h' = some (.bool (rightB l), h') := by
      rcases hz with ⟨_, rfl, ⟨rfl, rfl⟩ | ⟨rfl, rfl⟩⟩ | ⟨hz1, rfl⟩
      · rfl
      · rfl
      · simp only [gR, S.hi hz1, parse_flat]
        by_cases hc : l.length = 0 ∧ c = 1
        · rw [if_pos hc]
          have : l = [] := List.eq_nil_of_length_eq_zero hc.1
          rw [this]; rfl
        · rw [if_neg hc, if_pos ⟨trivial, trivial, trivial, trivial, hn⟩]
    have r2 := S.t.gR (by rw [turnL_length]; exact hn)
    rw [p1] at r2
    cases hr : rightB l with
    | true =>
      have r3 := S.p.gR (by have := partL_length l kb l.length; omega)
      rw [p2 hr] at r3
      rw [hr] at r1 r2
      exact ⟨_, (.seq (.run [(0, _), (1, _), (2, _)] (.op rfl rfl .nil) rfl) (.seq (.seq (.run [(0, _), (1, _), (2, _), (13, _)] (.op rfl rfl (.op rfl rfl (.op rfl (op_val rfl c13) .nil))) rfl) (.condF rfl .skip)) (.seq (.run [(0, _), (1, _), (2, _), (7, _), (8, _)] (.op rfl rfl (.op rfl rfl .nil)) rfl) (.seq (.seq (.run [(0, _), (1, _), (2, _), (7, _), (8, _), (9, _)] (.op rfl rfl .nil) rfl) (.blockE hl)) (.seq (.run [(7, _), (8, _), (10, _)] (.op rfl rfl (.call rfl rfl rfl (Ran.spec T.t11 r1) (.op rfl rfl .nil))) rfl) (.seq (.run [(6, _)] (.op rfl rfl (.call rfl rfl rfl (Ran.spec T.t11 r2) (.op rfl rfl (.op rfl rfl (.op rfl rfl (.op rfl rfl (.op rfl rfl (.op rfl rfl (.op rfl rfl (.call rfl rfl rfl (Ran.spec T.t11 r3) (.op rfl rfl (.op rfl rfl (.op rfl rfl (.call rfl rfl rfl (Ran.spec T.t7 rfl) (.op rfl rfl (.op rfl rfl .nil)))))))))))))))) rfl) .ret))))))⟩
    | false =>
      rw [hr] at r1 r2
      exact ⟨_, (.seq (.run [(0, _), (1, _), (2, _)] (.op rfl rfl .nil) rfl) (.seq (.seq (.run [(0, _), (1, _), (2, _), (13, _)] (.op rfl rfl (.op rfl rfl (.op rfl (op_val rfl c13) .nil))) rfl) (.condF rfl .skip)) (.seq (.run [(0, _), (1, _), (2, _), (7, _), (8, _)] (.op rfl rfl (.op rfl rfl .nil)) rfl) (.seq (.seq (.run [(0, _), (1, _), (2, _), (7, _), (8, _), (9, _)] (.op rfl rfl .nil) rfl) (.blockE hl)) (.seq (.run [(7, _), (8, _), (10, _)] (.op rfl rfl (.call rfl rfl rfl (Ran.spec T.t11 r1) (.op rfl rfl .nil))) rfl) (.seq (.run [(6, _)] (.op rfl rfl (.call rfl rfl rfl (Ran.spec T.t11 r2) (.op rfl rfl (.op rfl rfl (.op rfl rfl (.op rfl rfl (.op rfl rfl (.op rfl rfl (.off rfl (.offC rfl (.op rfl rfl (.op rfl rfl (.op rfl rfl (.call rfl rfl rfl (Ran.spec T.t7 rfl) (.op rfl rfl (.op rfl rfl .nil)))))))))))))))) rfl) .ret))))))⟩
  · have c13 : (Value.bool (decide ((l.length : Int) > 60))) = Value.bool true := by simp; omega
    exact ⟨_, (.seq (.run [(0, _), (1, _), (2, _)] (.op rfl rfl .nil) rfl) (.seqR (.seq (.run [(0, _), (1, _), (2, _), (13, _)] (.op rfl rfl (.op rfl rfl (.op rfl (op_val rfl c13) .nil))) rfl) (.condT rfl (.seq (.run [(6, _)] (.call rfl rfl rfl (Ran.spec T.t7 rfl) (.op rfl rfl .nil)) rfl) .ret)))))⟩
def Rel2 (x y : JOp) : Prop := ¬ (x.r = false ∧ y.r = false ∧ x.s = y.s)
theorem Rel2.symm {x y : JOp} (h : Rel2 x y) : Rel2 y x := fun ⟨a, b, c⟩ => h ⟨b, a, c.symm⟩
theorem any_idx {α : Type} (l : List α) (f : α × Nat → Bool) : ((l.drop 0).zipIdx 0).any f = true ↔ ∃ i x, l[i]? = some x ∧ f (x, i) = true := by
  rw [List.drop_zero, List.any_eq_true]
  constructor
  · rintro ⟨⟨x, i⟩, hm, hf⟩
    exact ⟨i, x, List.mem_zipIdx_iff_getElem?.1 hm, hf⟩
  · rintro ⟨i, x, hx, hf⟩
    exact ⟨(x, i), List.mem_zipIdx_iff_getElem?.2 hx, hf⟩
theorem bad_iff (i j : Nat) (x y : JOp) : bad i j x y = true ↔ (i ≠ j ∧ x.r = false ∧ y.r = false ∧ x.s = y.s) ∨ (x.t < y.a ∧ ¬ cmpO x y < 0) := by
  unfold bad
  cases x.r <;> cases y.r <;> simp
theorem rightB_iff (l : List JOp) : rightB l = true ↔ (∀ x ∈ l, ¬ x.a > x.t) ∧ l.Pairwise Rel2 ∧ (∀ x ∈ l, ∀ y ∈ l, ¬ (x.t < y.a ∧ ¬ cmpO x y < 0)) := by
  have key : rightB l = true ↔ ¬ ∃ i x, l[i]? = some x ∧ badRow l i x = true := by
    unfold rightB; rw [Bool.not_eq_true', ← Bool.not_eq_true]; exact not_congr (any_idx l _)
  have row : ∀ i x, badRow l i x = true ↔ x.a > x.t ∨ ∃ j y, l[j]? = some y ∧ bad i j x y = true := fun i x => by
    unfold badRow badIn; rw [Bool.or_eq_true, decide_eq_true_eq]; exact or_congr Iff.rfl (any_idx l _)
  rw [key]
  constructor
  · intro h
    refine ⟨fun x hx q => ?_, List.pairwise_iff_getElem.2 fun i j hi hj hij q => ?_, fun x hx y hy q => ?_⟩
    · obtain ⟨i, hi⟩ := List.getElem?_of_mem hx
      exact h ⟨i, x, hi, (row i x).2 (.inl q)⟩
    · exact h ⟨i, _, List.getElem?_eq_getElem hi, (row i _).2 (.inr ⟨j, _, List.getElem?_eq_getElem hj, (bad_iff ..).2 (.inl ⟨by omega, q⟩)⟩)⟩
    · obtain ⟨i, hi⟩ := List.getElem?_of_mem hx
      obtain ⟨j, hj⟩ := List.getElem?_of_mem hy
      exact h ⟨i, x, hi, (row i x).2 (.inr ⟨j, y, hj, (bad_iff ..).2 (.inr q)⟩)⟩
  · rintro ⟨h1, h2, h3⟩ ⟨i, x, hx, hb⟩
    rcases (row i x).1 hb with q | ⟨j, y, hy, q⟩
    · exact h1 x (List.mem_of_getElem? hx) q
    · rcases (bad_iff ..).1 q with ⟨hne, q⟩ | q
      · obtain ⟨hi, rfl⟩ := List.getElem?_eq_some_iff.1 hx
        obtain ⟨hj, rfl⟩ := List.getElem?_eq_some_iff.1 hy
        rcases Nat.lt_or_gt_of_ne hne with hij | hij
        · exact List.pairwise_iff_getElem.1 h2 i j hi hj hij q
        · exact Rel2.symm (List.pairwise_iff_getElem.1 h2 j i hj hi hij) q
      · exact h3 x (List.mem_of_getElem? hx) y (List.mem_of_getElem? hy) q
theorem rightB_sub {l m : List JOp} (h : m.Sublist l) (hr : rightB l = true) : rightB m = true := by
  obtain ⟨h1, h2, h3⟩ := (rightB_iff l).1 hr
  exact (rightB_iff m).2 ⟨fun x hx => h1 x (h.subset hx), h2.sublist h, fun x hx y hy => h3 x (h.subset hx) y (h.subset hy)⟩
theorem rightB_perm {l m : List JOp} (h : l.Perm m) : rightB l = rightB m := by
  have key : ∀ {l m : List JOp}, l.Perm m → rightB l = true → rightB m = true := fun {l m} h hr => by
    obtain ⟨h1, h2, h3⟩ := (rightB_iff l).1 hr
    exact (rightB_iff m).2 ⟨fun x hx => h1 x (h.mem_iff.2 hx), h.pairwise h2 (fun {x y} => Rel2.symm), fun x hx y hy => h3 x (h.mem_iff.2 hx) y (h.mem_iff.2 hy)⟩
  cases hl : rightB l with
  | true => rw [key h hl]
  | false =>
    cases hm : rightB m with
    | true => rw [key h.symm hm] at hl; cases hl
    | false => rfl
theorem turnL_perm (l : List JOp) (turn : Nat) : (turnL l turn l.length).Perm l := by
  by_cases hn : l = []
  · subst hn; exact List.Perm.refl _
  · have hpos : 0 < l.length := List.length_pos_iff.2 hn
    have e : turnL l turn l.length = l.drop (turn % l.length) ++ l.take (turn % l.length) := by
      have hk : turn % l.length < l.length := Nat.mod_lt _ hpos
      apply List.ext_getElem?
      intro i
      by_cases hi : i < l.length
      · have h1 : (turnL l turn l.length)[i]? = some (el l ((i + turn) % l.length)) := by simp [turnL, hi]
        rw [h1, ← el_get (Nat.mod_lt _ hpos), List.getElem?_append, List.length_drop]
        rw [Nat.add_mod, Nat.mod_eq_of_lt hi]
        split
        · rename_i h; rw [List.getElem?_drop, Nat.mod_eq_of_lt (by omega)]; congr 1; omega
        · rename_i h
          rw [List.getElem?_take, if_pos (by omega)]
          congr 1
          rw [Nat.mod_eq_sub_mod (by omega), Nat.mod_eq_of_lt (by omega)]; omega
      · rw [List.getElem?_eq_none (by rw [turnL_length]; omega), List.getElem?_eq_none (by simp; omega)]
    rw [e]
    exact List.perm_append_comm.trans (by rw [List.take_append_drop])
theorem partL_sub (l : List JOp) (kb : List Bool) : (partL l kb l.length).Sublist l := by
  have key : ∀ i, i ≤ l.length → (partL l kb i).Sublist (l.take i) := by
    intro i
    induction i with
    | zero => intro _; exact List.Sublist.refl _
    | succ i ih =>
      intro h
      rw [partL_succ, List.take_add_one, el_get (by omega : i < l.length)]
      refine (ih (by omega)).append ?_
      unfold more
      split
      · exact List.Sublist.refl _
      · exact List.nil_sublist _
  have := key l.length (Nat.le_refl _)
  rwa [List.take_length] at this
theorem law_true (T : Tl tab) {z : Bool} {l : List JOp} {kb : List Bool} {turn m c c2 : Nat} {P0 P2 : Option Addr} (hz : (z = false ∧ l = [] ∧ ((P0 = none ∧ c = 0) ∨ (P0 = some ⟨0, 0, none⟩ ∧ c = 1))) ∨ (z = true ∧ P0 = some ⟨0, 0, none⟩)) (hn : l.length < 9223372036854775808) (htn : turn < 256) (hm : m = kb.length) (hm2 : kb ≠ [] → P2 = some ⟨1, 0, none⟩)
    (h : H) (hi : z = true → h.get 0 = some ⟨flat l, 4, true⟩) (hk : kb ≠ [] → h.get 1 = some ⟨kb.map Value.bool, 1, true⟩) (h2 : 2 ≤ h.next) : ∃ h2, Ran tab 6 [.slice P0 l.length c, .int .u8 turn, .slice P2 m c2] h (.bool true) h2 :=
  law_ran T hz hn htn hm hm2 h hi hk h2 (rightB_perm (turnL_perm l turn)) (fun hr => rightB_sub (partL_sub l kb) hr)
end Go.Proofs.Ytfcpokolbifilaa.Jd

