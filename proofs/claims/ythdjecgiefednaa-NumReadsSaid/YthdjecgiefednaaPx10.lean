-- Written by wip/tools/myprint.sh out of the translation, over the kit's print with a patch. Not trusted: Lean checks it.
import Derived.Test.YthdjecgiefednaaPx0
import Derived.Test.YthdjecgiefednaaPx2
import Derived.Test.YthdjecgiefednaaPx3
import Derived.Test.YthdjecgiefednaaPx7
import Derived.Test.YthdjecgiefednaaPx8
import Derived.Test.YthdjecgiefednaaPx9
namespace Go.Proofs.Ythdjecgiefednaa.P
open Go.RowKit Go.Proofs.YthdjecgiefednaaW.PrintWords Go.Proofs.YthdjecgiefednaaW.PrintLast Go.Proofs.YthdjecgiefednaaW.PrintMore Go.Proofs.Ythdjecgiefednaa.Num
attribute [local go_sem] max2_int min2_int max_two min_two max_three min_three max_four min_four   -- for this text's walks alone
set_option linter.unusedVariables false
set_option linter.unusedSimpArgs false

/-! ### wapentakelaw01_NumReads: function 6 -/
mutual
def wapentakelaw01_NumReads.j0 : Nat → ByteArray → Int → Option (Bool)
  | 0, _, _ => none
  | k + 1, x0, x1 => (num_ReadU.f k x0 x1).bind fun bt195 => ((wapentakeref01_ReadU.f k x0 x1).bind fun bt197 => (if bt195.1 = bt197.1 then (wapentakelaw01_NumReads.j1 k x0 (bt195.2 != bt197.2)) else (wapentakelaw01_NumReads.j1 k x0 true)))
def wapentakelaw01_NumReads.j1 : Nat → ByteArray → Bool → Option (Bool)
  | 0, _, _ => none
  | k + 1, x0, x37 => if x37 = true then (some false) else ((num_ReadV.f k x0).bind fun bt199 => ((wapentakeref01_ReadV.f k x0).bind fun bt202 => (if bt199.1 = bt202.1 then (if bt199.2.1 = bt202.2.1 then (wapentakelaw01_NumReads.j2 k x0 (bt199.2.2 != bt202.2.2)) else (wapentakelaw01_NumReads.j2 k x0 true)) else (wapentakelaw01_NumReads.j2 k x0 true))))
def wapentakelaw01_NumReads.j2 : Nat → ByteArray → Bool → Option (Bool)
  | 0, _, _ => none
  | k + 1, x0, x62 => if x62 = true then (some false) else ((num_ReadS.f k x0).bind fun bt205 => ((wapentakeref01_ReadS.f k x0).bind fun bt208 => (if bt205.1.toList = bt208.1.toList then (if bt205.2.1 = bt208.2.1 then (if (bt205.2.2 == bt208.2.2) = true then ((wapentakelaw01_awake.f k).bind fun t211 => (some t211)) else (some false)) else (some false)) else (some false))))
end
def wapentakelaw01_NumReads.f (k : Nat) (a0 : ByteArray) (a1 : Int) : Option (Bool) := if (a0.size : Int) > 20000 then (if 0 ≤ 20000 then (if 20000 ≤ (a0.size : Int) then (wapentakelaw01_NumReads.j0 k (a0.extract 0 20000) a1) else (none)) else (none)) else (wapentakelaw01_NumReads.j0 k a0 a1)
theorem wapentakelaw01_NumReads.mono_l : ∀ k, (∀ y0 y1, LeO (wapentakelaw01_NumReads.j0 k y0 y1) (wapentakelaw01_NumReads.j0 (k + 1) y0 y1)) ∧ (∀ y0 y1, LeO (wapentakelaw01_NumReads.j1 k y0 y1) (wapentakelaw01_NumReads.j1 (k + 1) y0 y1)) ∧ (∀ y0 y1, LeO (wapentakelaw01_NumReads.j2 k y0 y1) (wapentakelaw01_NumReads.j2 (k + 1) y0 y1))
  | 0 => ⟨fun _ _ r h => by simp [wapentakelaw01_NumReads.j0] at h, fun _ _ r h => by simp [wapentakelaw01_NumReads.j1] at h, fun _ _ r h => by simp [wapentakelaw01_NumReads.j2] at h⟩
  | k + 1 => by
    obtain ⟨ih0, ih1, ih2⟩ := wapentakelaw01_NumReads.mono_l k
    refine ⟨?_, ?_, ?_⟩
    · intro y0 y1
      unfold wapentakelaw01_NumReads.j0
      repeat' first
      | (with_reducible exact ih0 _ _)
      | (with_reducible exact ih1 _ _)
      | (with_reducible exact ih2 _ _)
      | (with_reducible exact num_ReadS.mono _ _)
      | (with_reducible exact num_ReadU.mono _ _ _)
      | (with_reducible exact num_ReadV.mono _ _)
      | (with_reducible exact wapentakelaw01_awake.mono _)
      | (with_reducible exact wapentakeref01_ReadS.mono _ _)
      | (with_reducible exact wapentakeref01_ReadU.mono _ _ _)
      | (with_reducible exact wapentakeref01_ReadV.mono _ _)
      | (with_reducible exact LeO.refl _)
      | (with_reducible exact LeO.none _)
      | (with_reducible refine LeO.ite ?_ ?_)
      | (with_reducible refine LeO.bind ?_ (fun _ => ?_))
      | exact ih0 _ _
      | exact ih1 _ _
      | exact ih2 _ _
      | exact num_ReadS.mono _ _
      | exact num_ReadU.mono _ _ _
      | exact num_ReadV.mono _ _
      | exact wapentakelaw01_awake.mono _
      | exact wapentakeref01_ReadS.mono _ _
      | exact wapentakeref01_ReadU.mono _ _ _
      | exact wapentakeref01_ReadV.mono _ _
      | exact LeO.none _
      | refine LeO.ite ?_ ?_
      | refine LeO.bind ?_ (fun _ => ?_)
    · intro y0 y1
      unfold wapentakelaw01_NumReads.j1
      repeat' first
      | (with_reducible exact ih0 _ _)
      | (with_reducible exact ih1 _ _)
      | (with_reducible exact ih2 _ _)
      | (with_reducible exact num_ReadS.mono _ _)
      | (with_reducible exact num_ReadU.mono _ _ _)
      | (with_reducible exact num_ReadV.mono _ _)
      | (with_reducible exact wapentakelaw01_awake.mono _)
      | (with_reducible exact wapentakeref01_ReadS.mono _ _)
      | (with_reducible exact wapentakeref01_ReadU.mono _ _ _)
      | (with_reducible exact wapentakeref01_ReadV.mono _ _)
      | (with_reducible exact LeO.refl _)
      | (with_reducible exact LeO.none _)
      | (with_reducible refine LeO.ite ?_ ?_)
      | (with_reducible refine LeO.bind ?_ (fun _ => ?_))
      | exact ih0 _ _
      | exact ih1 _ _
      | exact ih2 _ _
      | exact num_ReadS.mono _ _
      | exact num_ReadU.mono _ _ _
      | exact num_ReadV.mono _ _
      | exact wapentakelaw01_awake.mono _
      | exact wapentakeref01_ReadS.mono _ _
      | exact wapentakeref01_ReadU.mono _ _ _
      | exact wapentakeref01_ReadV.mono _ _
      | exact LeO.none _
      | refine LeO.ite ?_ ?_
      | refine LeO.bind ?_ (fun _ => ?_)
    · intro y0 y1
      unfold wapentakelaw01_NumReads.j2
      repeat' first
      | (with_reducible exact ih0 _ _)
      | (with_reducible exact ih1 _ _)
      | (with_reducible exact ih2 _ _)
      | (with_reducible exact num_ReadS.mono _ _)
      | (with_reducible exact num_ReadU.mono _ _ _)
      | (with_reducible exact num_ReadV.mono _ _)
      | (with_reducible exact wapentakelaw01_awake.mono _)
      | (with_reducible exact wapentakeref01_ReadS.mono _ _)
      | (with_reducible exact wapentakeref01_ReadU.mono _ _ _)
      | (with_reducible exact wapentakeref01_ReadV.mono _ _)
      | (with_reducible exact LeO.refl _)
      | (with_reducible exact LeO.none _)
      | (with_reducible refine LeO.ite ?_ ?_)
      | (with_reducible refine LeO.bind ?_ (fun _ => ?_))
      | exact ih0 _ _
      | exact ih1 _ _
      | exact ih2 _ _
      | exact num_ReadS.mono _ _
      | exact num_ReadU.mono _ _ _
      | exact num_ReadV.mono _ _
      | exact wapentakelaw01_awake.mono _
      | exact wapentakeref01_ReadS.mono _ _
      | exact wapentakeref01_ReadU.mono _ _ _
      | exact wapentakeref01_ReadV.mono _ _
      | exact LeO.none _
      | refine LeO.ite ?_ ?_
      | refine LeO.bind ?_ (fun _ => ?_)
theorem wapentakelaw01_NumReads.mono : ∀ a0 a1 k, LeO (wapentakelaw01_NumReads.f k a0 a1) (wapentakelaw01_NumReads.f (k + 1) a0 a1) := by
  intro a0 a1 k
  obtain ⟨ih0, ih1, ih2⟩ := wapentakelaw01_NumReads.mono_l k
  unfold wapentakelaw01_NumReads.f
  repeat' first
      | (with_reducible exact ih0 _ _)
      | (with_reducible exact ih1 _ _)
      | (with_reducible exact ih2 _ _)
      | (with_reducible exact num_ReadS.mono _ _)
      | (with_reducible exact num_ReadU.mono _ _ _)
      | (with_reducible exact num_ReadV.mono _ _)
      | (with_reducible exact wapentakelaw01_awake.mono _)
      | (with_reducible exact wapentakeref01_ReadS.mono _ _)
      | (with_reducible exact wapentakeref01_ReadU.mono _ _ _)
      | (with_reducible exact wapentakeref01_ReadV.mono _ _)
      | (with_reducible exact LeO.refl _)
      | (with_reducible exact LeO.none _)
      | (with_reducible refine LeO.ite ?_ ?_)
      | (with_reducible refine LeO.bind ?_ (fun _ => ?_))
      | exact ih0 _ _
      | exact ih1 _ _
      | exact ih2 _ _
      | exact num_ReadS.mono _ _
      | exact num_ReadU.mono _ _ _
      | exact num_ReadV.mono _ _
      | exact wapentakelaw01_awake.mono _
      | exact wapentakeref01_ReadS.mono _ _
      | exact wapentakeref01_ReadU.mono _ _ _
      | exact wapentakeref01_ReadV.mono _ _
      | exact LeO.none _
      | refine LeO.ite ?_ ?_
      | refine LeO.bind ?_ (fun _ => ?_)
set_option maxHeartbeats 8000000 in
set_option maxRecDepth 100000 in
theorem wapentakelaw01_NumReads.calls (k : Nat) (a0 : ByteArray) (a1 : Int) (r : Bool) (w : World) (h : wapentakelaw01_NumReads.f k a0 a1 = some r) :
    Calls Try.prog 6 #[.string a0, .int .i64 a1] w fun e w' => e = .returned (.bool r) ∧ Below w.heap.size w w' := by
  have HB := Aside0.mk (Below.refl w.heap.size w)
  have H : (if (a0.size : Int) > 20000 then (if 0 ≤ 20000 then (if 20000 ≤ (a0.size : Int) then (wapentakelaw01_NumReads.j0 k (a0.extract 0 20000) a1) else (none)) else (none)) else (wapentakelaw01_NumReads.j0 k a0 a1)) = some r := h
  clear h
  have HC3 := Aside0.mk H
  clear H
  go_enter Try.func6, Try.ntmps6
  go_upto_if 15 with (fail)
  go_cut [0] (fun v0 wc => ∃ (kq : Nat) (x0_2 : ByteArray), v0 = .string x0_2 ∧ Aside0 (wapentakelaw01_NumReads.j0 kq x0_2 a1 = some r) ∧ Aside0 (kq ≤ k) ∧ Aside0 (Below w.heap.size w wc))
  case first =>
    have H := HC3.out
    clear HC3
    by_cases c4 : (a0.size : Int) > 20000
    · rw [if_pos c4] at H
      have c4b0 : decide (20000 < (a0.size : Int)) = true := decide_eq_true c4
      have c4b1 : decide (20000 < a0.size) = true := decide_eq_true (by omega)
      clear c4
      (first | rw [c4b0] | (simp only [i64_w, i32_w]; rw [c4b0]) | skip)
      by_cases c5 : 0 ≤ 20000
      · rw [if_pos c5] at H
        have c5b0 := eq_true c5
        have c5b1 : decide (0 ≤ 20000) = true := decide_eq_true c5
        clear c5
        by_cases c6 : 20000 ≤ (a0.size : Int)
        · rw [if_pos c6] at H
          have c6b0 := eq_true c6
          have c6b1 : decide (20000 ≤ (a0.size : Int)) = true := decide_eq_true c6
          clear c6
          have H' := Aside0.mk H
          clear H
          go_wp2
          go_meet
          case rel => exact ⟨_, (a0.extract 0 20000), (by first | rfl | (simp; done) | (simp [*]; done)), H', ⟨by first | omega | exact Nat.le_refl _⟩, ⟨by repeat (first | (with_reducible first | exact HB.out | apply below_alloc | apply pw_below_drewN | apply below_drew1) | exact HB.out)⟩⟩
        · rw [if_neg c6] at H
          exact absurd H (by simp)
      · rw [if_neg c5] at H
        exact absurd H (by simp)
    · rw [if_neg c4] at H
      have c4b0 : decide (20000 < (a0.size : Int)) = false := decide_eq_false c4
      have c4b1 : decide (20000 < a0.size) = false := decide_eq_false (by omega)
      clear c4
      (first | rw [c4b0] | (simp only [i64_w, i32_w]; rw [c4b0]) | skip)
      have H' := Aside0.mk H
      clear H
      go_wp2
      go_meet
      case rel => exact ⟨_, (a0), (by first | rfl | (simp; done) | (simp [*]; done)), H', ⟨by first | omega | exact Nat.le_refl _⟩, ⟨by repeat (first | (with_reducible first | exact HB.out | apply below_alloc | apply pw_below_drewN | apply below_drew1) | exact HB.out)⟩⟩
  case rest =>
    clear HC3
    try clear p2
    try clear c4
    try clear c4b0
    try clear c4b1
    try clear c5
    try clear c5b0
    try clear c5b1
    try clear c6
    try clear c6b0
    try clear c6b1
    obtain ⟨kq, x0_2, rfl, HA, HJ2, HB⟩ := hcut
    cases kq with
    | zero => exact absurd HA.out (by simp [wapentakelaw01_NumReads.j0])
    | succ kj2 =>
      have H := HA.out
      clear HA
      simp only [wapentakelaw01_NumReads.j0] at H
      replace H := Option.bind_eq_some_iff.mp H
      obtain ⟨⟨t195, t196⟩, A70, H⟩ := H
      replace H : ((wapentakeref01_ReadU.f kj2 x0_2 a1).bind fun bt197 => (if t195 = bt197.1 then (wapentakelaw01_NumReads.j1 kj2 x0_2 (t196 != bt197.2)) else (wapentakelaw01_NumReads.j1 kj2 x0_2 true))) = some r := H
      have A7 := Aside0.mk A70
      clear A70
      replace H := Option.bind_eq_some_iff.mp H
      obtain ⟨⟨t197, t198⟩, A80, H⟩ := H
      replace H : (if t195 = t197 then (wapentakelaw01_NumReads.j1 kj2 x0_2 (t196 != t198)) else (wapentakelaw01_NumReads.j1 kj2 x0_2 true)) = some r := H
      have A8 := Aside0.mk A80
      clear A80
      have HC9 := Aside0.mk H
      clear H
      go_upto_region 5 with (first | ((with_reducible refine gate_callee (f := 19) rfl ?_); refine goesL_ (some 21) rfl rfl Try.func19 (by kernel_rfl) rfl #[.string x0_2, .int .i64 a1] rfl (by (try simp only [List.map_toArray, List.map_cons, List.map_nil]); first | done | rfl | (simp only [List.length_drop, List.length_take]; rfl)) ?_; (with_reducible refine (num_ReadU.calls kj2 x0_2 a1 t195 t196 _ A7.out).mono ?_); rintro e w' ⟨rfl, ⟨nd, rfl⟩⟩; refine ⟨_, rfl, ?_⟩) | ((with_reducible refine gate_callee (f := 20) rfl ?_); refine goesL_ (some 27) rfl rfl Try.func20 (by kernel_rfl) rfl #[.string x0_2, .int .i64 a1] rfl (by (try simp only [List.map_toArray, List.map_cons, List.map_nil]); first | done | rfl | (simp only [List.length_drop, List.length_take]; rfl)) ?_; (with_reducible refine (wapentakeref01_ReadU.calls kj2 x0_2 a1 t197 t198 _ A8.out).mono ?_); rintro e w' ⟨rfl, ⟨nd, rfl⟩⟩; refine ⟨_, rfl, ?_⟩))
      (try simp only [Act.put, List.setIfInBounds_toArray, List.set_cons_zero, List.set_cons_succ])
      go_cut [37] (fun v37 wc => ∃ (kq : Nat) (x37_8 : Bool), v37 = .bool x37_8 ∧ Aside0 (wapentakelaw01_NumReads.j1 kq x0_2 x37_8 = some r) ∧ Aside0 (kq ≤ kj2) ∧ Aside0 (Below w.heap.size w wc))
      case first =>
        have H := HC9.out
        clear HC9
        by_cases c10 : t195 = t197
        · rw [if_pos c10] at H
          have c10b0 : (t195 == t197) = true := beq_iff_eq.mpr c10
          have c10b1 : (t195 != t197) = false := bne_eq_false_iff_eq.mpr c10
          clear c10
          (first | rw [c10b0] | (simp only [i64_w, i32_w]; rw [c10b0]) | skip)
          have H' := Aside0.mk H
          clear H
          go_wp2
          go_meet
          case rel => exact ⟨_, ((t196 != t198)), (by first | rfl | (simp; done) | (simp [*]; done)), H', ⟨by have := HJ2.out; first | omega | exact Nat.le_refl _⟩, ⟨by repeat (first | (with_reducible first | exact HB.out | apply below_alloc | apply pw_below_drewN | apply below_drew1) | exact HB.out)⟩⟩
        · rw [if_neg c10] at H
          have c10b0 : (t195 == t197) = false := beq_eq_false_iff_ne.mpr c10
          have c10b1 : (t195 != t197) = true := bne_iff_ne.mpr c10
          (first | rw [c10b0] | (simp only [i64_w, i32_w]; rw [c10b0]) | skip)
          have H' := Aside0.mk H
          clear H
          go_wp2
          go_meet
          case rel => exact ⟨_, (true), (by first | rfl | (simp; done) | (simp [*]; done)), H', ⟨by have := HJ2.out; first | omega | exact Nat.le_refl _⟩, ⟨by repeat (first | (with_reducible first | exact HB.out | apply below_alloc | apply pw_below_drewN | apply below_drew1) | exact HB.out)⟩⟩
      case rest =>
        clear HC9
        try clear c1
        try clear c2
        try clear p2
        try clear c4
        try clear c4b0
        try clear c4b1
        try clear c5
        try clear c5b0
        try clear c5b1
        try clear c6
        try clear c6b0
        try clear c6b1
        try clear c10
        try clear c10b0
        try clear c10b1
        try clear p2
        obtain ⟨kq, x37_8, rfl, HA, HJ8, HB⟩ := hcut
        cases kq with
        | zero => exact absurd HA.out (by simp [wapentakelaw01_NumReads.j1])
        | succ kj8 =>
          have H := HA.out
          clear HA
          simp only [wapentakelaw01_NumReads.j1] at H
          by_cases c11 : x37_8 = true
          · subst c11
            have H1 : (some false) = some r := by rw [if_pos rfl] at H; exact H
            clear H
            have H := H1
            clear H1
            obtain rfl := Option.some.inj H
            go_wp2
            go_ret
            exact ⟨by first | rfl | (simp [errW_none, errW_some] <;> rfl) | (simp [*, errW_none, errW_some] <;> rfl), by repeat (first | (with_reducible first | exact HB.out | apply below_alloc | apply pw_below_drewN | apply below_drew1) | exact HB.out)⟩
          · replace c11 := Bool.eq_false_iff.mpr c11
            subst c11
            have H1 : ((num_ReadV.f kj8 x0_2).bind fun bt199 => ((wapentakeref01_ReadV.f kj8 x0_2).bind fun bt202 => (if bt199.1 = bt202.1 then (if bt199.2.1 = bt202.2.1 then (wapentakelaw01_NumReads.j2 kj8 x0_2 (bt199.2.2 != bt202.2.2)) else (wapentakelaw01_NumReads.j2 kj8 x0_2 true)) else (wapentakelaw01_NumReads.j2 kj8 x0_2 true)))) = some r := by rw [if_neg (show ¬ (false = true) by decide)] at H; exact H
            clear H
            have H := H1
            clear H1
            replace H := Option.bind_eq_some_iff.mp H
            obtain ⟨⟨t199, t200, t201⟩, A120, H⟩ := H
            replace H : ((wapentakeref01_ReadV.f kj8 x0_2).bind fun bt202 => (if t199 = bt202.1 then (if t200 = bt202.2.1 then (wapentakelaw01_NumReads.j2 kj8 x0_2 (t201 != bt202.2.2)) else (wapentakelaw01_NumReads.j2 kj8 x0_2 true)) else (wapentakelaw01_NumReads.j2 kj8 x0_2 true))) = some r := H
            have A12 := Aside0.mk A120
            clear A120
            replace H := Option.bind_eq_some_iff.mp H
            obtain ⟨⟨t202, t203, t204⟩, A130, H⟩ := H
            replace H : (if t199 = t202 then (if t200 = t203 then (wapentakelaw01_NumReads.j2 kj8 x0_2 (t201 != t204)) else (wapentakelaw01_NumReads.j2 kj8 x0_2 true)) else (wapentakelaw01_NumReads.j2 kj8 x0_2 true)) = some r := H
            have A13 := Aside0.mk A130
            clear A130
            have HC14 := Aside0.mk H
            clear H
            go_upto_region 9 with (first | ((with_reducible refine gate_callee (f := 17) rfl ?_); refine goesL_ (some 40) rfl rfl Try.func17 (by kernel_rfl) rfl #[.string x0_2] rfl (by (try simp only [List.map_toArray, List.map_cons, List.map_nil]); first | done | rfl | (simp only [List.length_drop, List.length_take]; rfl)) ?_; (with_reducible refine (num_ReadV.calls kj8 x0_2 t199 t200 t201 _ A12.out).mono ?_); rintro e w' ⟨rfl, ⟨nd, rfl⟩⟩; refine ⟨_, rfl, ?_⟩) | ((with_reducible refine gate_callee (f := 21) rfl ?_); refine goesL_ (some 46) rfl rfl Try.func21 (by kernel_rfl) rfl #[.string x0_2] rfl (by (try simp only [List.map_toArray, List.map_cons, List.map_nil]); first | done | rfl | (simp only [List.length_drop, List.length_take]; rfl)) ?_; (with_reducible refine (wapentakeref01_ReadV.calls kj8 x0_2 t202 t203 t204 _ A13.out).mono ?_); rintro e w15 ⟨rfl, hb⟩; refine ⟨_, rfl, ?_⟩; have n0_ := Aside0.mk (below_step (by repeat (first | (with_reducible first | exact HB.out | apply below_alloc | apply pw_below_drewN | apply below_drew1) | exact HB.out)) hb); clear HB; have HB := n0_; clear n0_; (try clear hb); (try clear hb2); (try clear hk); (try clear hi)))
            (try simp only [Act.put, List.setIfInBounds_toArray, List.set_cons_zero, List.set_cons_succ])
            go_cut [62] (fun v62 wc => ∃ (kq : Nat) (x62_13 : Bool), v62 = .bool x62_13 ∧ Aside0 (wapentakelaw01_NumReads.j2 kq x0_2 x62_13 = some r) ∧ Aside0 (kq ≤ kj8) ∧ Aside0 (Below w.heap.size w wc))
            case first =>
              have H := HC14.out
              clear HC14
              by_cases c16 : t199 = t202
              · rw [if_pos c16] at H
                have c16b0 : (t199 == t202) = true := beq_iff_eq.mpr c16
                have c16b1 : (t199 != t202) = false := bne_eq_false_iff_eq.mpr c16
                clear c16
                (first | rw [c16b0] | (simp only [i64_w, i32_w]; rw [c16b0]) | skip)
                by_cases c17 : t200 = t203
                · rw [if_pos c17] at H
                  have c17b0 : (t200 == t203) = true := beq_iff_eq.mpr c17
                  have c17b1 : (t200 != t203) = false := bne_eq_false_iff_eq.mpr c17
                  clear c17
                  have H' := Aside0.mk H
                  clear H
                  go_wp2
                  go_meet
                  case rel => exact ⟨_, ((t201 != t204)), (by first | rfl | (simp; done) | (simp [*]; done)), H', ⟨by have := HJ2.out; have := HJ8.out; first | omega | exact Nat.le_refl _⟩, ⟨by repeat (first | (with_reducible first | exact HB.out | apply below_alloc | apply pw_below_drewN | apply below_drew1) | exact HB.out)⟩⟩
                · rw [if_neg c17] at H
                  have c17b0 : (t200 == t203) = false := beq_eq_false_iff_ne.mpr c17
                  have c17b1 : (t200 != t203) = true := bne_iff_ne.mpr c17
                  have H' := Aside0.mk H
                  clear H
                  go_wp2
                  go_meet
                  case rel => exact ⟨_, (true), (by first | rfl | (simp; done) | (simp [*]; done)), H', ⟨by have := HJ2.out; have := HJ8.out; first | omega | exact Nat.le_refl _⟩, ⟨by repeat (first | (with_reducible first | exact HB.out | apply below_alloc | apply pw_below_drewN | apply below_drew1) | exact HB.out)⟩⟩
              · rw [if_neg c16] at H
                have c16b0 : (t199 == t202) = false := beq_eq_false_iff_ne.mpr c16
                have c16b1 : (t199 != t202) = true := bne_iff_ne.mpr c16
                (first | rw [c16b0] | (simp only [i64_w, i32_w]; rw [c16b0]) | skip)
                have H' := Aside0.mk H
                clear H
                go_wp2
                go_meet
                case rel => exact ⟨_, (true), (by first | rfl | (simp; done) | (simp [*]; done)), H', ⟨by have := HJ2.out; have := HJ8.out; first | omega | exact Nat.le_refl _⟩, ⟨by repeat (first | (with_reducible first | exact HB.out | apply below_alloc | apply pw_below_drewN | apply below_drew1) | exact HB.out)⟩⟩
            case rest =>
              clear HC14
              try clear c1
              try clear c2
              try clear p2
              try clear c4
              try clear c4b0
              try clear c4b1
              try clear c5
              try clear c5b0
              try clear c5b1
              try clear c6
              try clear c6b0
              try clear c6b1
              try clear c10
              try clear c10b0
              try clear c10b1
              try clear c11
              try clear c16
              try clear c16b0
              try clear c16b1
              try clear c17
              try clear c17b0
              try clear c17b1
              try clear p2
              obtain ⟨kq, x62_13, rfl, HA, HJ13, HB⟩ := hcut
              cases kq with
              | zero => exact absurd HA.out (by simp [wapentakelaw01_NumReads.j2])
              | succ kj13 =>
                have H := HA.out
                clear HA
                simp only [wapentakelaw01_NumReads.j2] at H
                by_cases c18 : x62_13 = true
                · subst c18
                  have H1 : (some false) = some r := by rw [if_pos rfl] at H; exact H
                  clear H
                  have H := H1
                  clear H1
                  obtain rfl := Option.some.inj H
                  go_wp2
                  go_ret
                  exact ⟨by first | rfl | (simp [errW_none, errW_some] <;> rfl) | (simp [*, errW_none, errW_some] <;> rfl), by repeat (first | (with_reducible first | exact HB.out | apply below_alloc | apply pw_below_drewN | apply below_drew1) | exact HB.out)⟩
                · replace c18 := Bool.eq_false_iff.mpr c18
                  subst c18
                  have H1 : ((num_ReadS.f kj13 x0_2).bind fun bt205 => ((wapentakeref01_ReadS.f kj13 x0_2).bind fun bt208 => (if bt205.1.toList = bt208.1.toList then (if bt205.2.1 = bt208.2.1 then (if (bt205.2.2 == bt208.2.2) = true then ((wapentakelaw01_awake.f kj13).bind fun t211 => (some t211)) else (some false)) else (some false)) else (some false)))) = some r := by rw [if_neg (show ¬ (false = true) by decide)] at H; exact H
                  clear H
                  have H := H1
                  clear H1
                  replace H := Option.bind_eq_some_iff.mp H
                  obtain ⟨⟨t205, t206, t207⟩, A190, H⟩ := H
                  replace H : ((wapentakeref01_ReadS.f kj13 x0_2).bind fun bt208 => (if t205.toList = bt208.1.toList then (if t206 = bt208.2.1 then (if (t207 == bt208.2.2) = true then ((wapentakelaw01_awake.f kj13).bind fun t211 => (some t211)) else (some false)) else (some false)) else (some false))) = some r := H
                  have A19 := Aside0.mk A190
                  clear A190
                  replace H := Option.bind_eq_some_iff.mp H
                  obtain ⟨⟨t208, t209, t210⟩, A200, H⟩ := H
                  replace H : (if t205.toList = t208.toList then (if t206 = t209 then (if (t207 == t210) = true then ((wapentakelaw01_awake.f kj13).bind fun t211 => (some t211)) else (some false)) else (some false)) else (some false)) = some r := H
                  have A20 := Aside0.mk A200
                  clear A200
                  by_cases c21 : t205.toList = t208.toList
                  · rw [if_pos c21] at H
                    have c21b0 : (t205.toList == t208.toList) = true := beq_iff_eq.mpr c21
                    have c21b1 : (t205.toList != t208.toList) = false := bne_eq_false_iff_eq.mpr c21
                    clear c21
                    by_cases c22 : t206 = t209
                    · rw [if_pos c22] at H
                      have c22b0 : (t206 == t209) = true := beq_iff_eq.mpr c22
                      have c22b1 : (t206 != t209) = false := bne_eq_false_iff_eq.mpr c22
                      clear c22
                      by_cases c23 : (t207 == t210) = true
                      · rw [if_pos c23] at H
                        have c23b0 : (t207 == t210) = true := c23
                        (try (have c23b1 : decide (t207 = t210) = true := by simpa using c23))
                        (try (have c23b2 : (t207 == t210) = true := by simpa using c23))
                        clear c23
                        replace H := Option.bind_eq_some_iff.mp H
                        obtain ⟨t211, A240, H⟩ := H
                        replace H : (some t211) = some r := H
                        have A24 := Aside0.mk A240
                        clear A240
                        obtain rfl := Option.some.inj H
                        go_wp2_with (first | ((with_reducible refine gate_callee (f := 18) rfl ?_); refine goesL_ (some 65) rfl rfl Try.func18 (by kernel_rfl) rfl #[.string x0_2] rfl (by (try simp only [List.map_toArray, List.map_cons, List.map_nil]); first | done | rfl | (simp only [List.length_drop, List.length_take]; rfl)) ?_; (with_reducible refine (num_ReadS.calls kj13 x0_2 t205 t206 t207 _ A19.out).mono ?_); rintro e w' ⟨rfl, ⟨nd, rfl⟩⟩; refine ⟨_, rfl, ?_⟩) | ((with_reducible refine gate_callee (f := 22) rfl ?_); refine goesL_ (some 71) rfl rfl Try.func22 (by kernel_rfl) rfl #[.string x0_2] rfl (by (try simp only [List.map_toArray, List.map_cons, List.map_nil]); first | done | rfl | (simp only [List.length_drop, List.length_take]; rfl)) ?_; (with_reducible refine (wapentakeref01_ReadS.calls kj13 x0_2 t208 t209 t210 _ A20.out).mono ?_); rintro e w25 ⟨rfl, hb⟩; refine ⟨_, rfl, ?_⟩; have n0_ := Aside0.mk (below_step (by repeat (first | (with_reducible first | exact HB.out | apply below_alloc | apply pw_below_drewN | apply below_drew1) | exact HB.out)) hb); clear HB; have HB := n0_; clear n0_; (try clear hb); (try clear hb2); (try clear hk); (try clear hi)) | (go_at_call 10; (with_reducible refine (wapentakelaw01_awake.calls kj13  t211 _ A24.out).mono ?_); rintro e w26 ⟨rfl, hb⟩; have n0_ := Aside0.mk (below_step (by repeat (first | (with_reducible first | exact HB.out | apply below_alloc | apply pw_below_drewN | apply below_drew1) | exact HB.out)) hb); clear HB; have HB := n0_; clear n0_; (try clear hb); (try clear hb2); (try clear hk); (try clear hi)))
                        go_ret
                        exact ⟨by first | rfl | (simp [errW_none, errW_some] <;> rfl) | (simp [*, errW_none, errW_some] <;> rfl), by repeat (first | (with_reducible first | exact HB.out | apply below_alloc | apply pw_below_drewN | apply below_drew1) | exact HB.out)⟩
                      · rw [if_neg c23] at H
                        have c23b0 : (t207 == t210) = false := by simpa using c23
                        (try (have c23b1 : decide (t207 = t210) = false := by simpa using c23))
                        (try (have c23b2 : (t207 == t210) = false := by simpa using c23))
                        (try (have c23b3 : ¬ (t207 = t210) := by simpa using c23))
                        clear c23
                        obtain rfl := Option.some.inj H
                        go_wp2_with (first | ((with_reducible refine gate_callee (f := 18) rfl ?_); refine goesL_ (some 65) rfl rfl Try.func18 (by kernel_rfl) rfl #[.string x0_2] rfl (by (try simp only [List.map_toArray, List.map_cons, List.map_nil]); first | done | rfl | (simp only [List.length_drop, List.length_take]; rfl)) ?_; (with_reducible refine (num_ReadS.calls kj13 x0_2 t205 t206 t207 _ A19.out).mono ?_); rintro e w' ⟨rfl, ⟨nd, rfl⟩⟩; refine ⟨_, rfl, ?_⟩) | ((with_reducible refine gate_callee (f := 22) rfl ?_); refine goesL_ (some 71) rfl rfl Try.func22 (by kernel_rfl) rfl #[.string x0_2] rfl (by (try simp only [List.map_toArray, List.map_cons, List.map_nil]); first | done | rfl | (simp only [List.length_drop, List.length_take]; rfl)) ?_; (with_reducible refine (wapentakeref01_ReadS.calls kj13 x0_2 t208 t209 t210 _ A20.out).mono ?_); rintro e w27 ⟨rfl, hb⟩; refine ⟨_, rfl, ?_⟩; have n0_ := Aside0.mk (below_step (by repeat (first | (with_reducible first | exact HB.out | apply below_alloc | apply pw_below_drewN | apply below_drew1) | exact HB.out)) hb); clear HB; have HB := n0_; clear n0_; (try clear hb); (try clear hb2); (try clear hk); (try clear hi)))
                        go_ret
                        exact ⟨by first | rfl | (simp [errW_none, errW_some] <;> rfl) | (simp [*, errW_none, errW_some] <;> rfl), by repeat (first | (with_reducible first | exact HB.out | apply below_alloc | apply pw_below_drewN | apply below_drew1) | exact HB.out)⟩
                    · rw [if_neg c22] at H
                      have c22b0 : (t206 == t209) = false := beq_eq_false_iff_ne.mpr c22
                      have c22b1 : (t206 != t209) = true := bne_iff_ne.mpr c22
                      obtain rfl := Option.some.inj H
                      go_wp2_with (first | ((with_reducible refine gate_callee (f := 18) rfl ?_); refine goesL_ (some 65) rfl rfl Try.func18 (by kernel_rfl) rfl #[.string x0_2] rfl (by (try simp only [List.map_toArray, List.map_cons, List.map_nil]); first | done | rfl | (simp only [List.length_drop, List.length_take]; rfl)) ?_; (with_reducible refine (num_ReadS.calls kj13 x0_2 t205 t206 t207 _ A19.out).mono ?_); rintro e w' ⟨rfl, ⟨nd, rfl⟩⟩; refine ⟨_, rfl, ?_⟩) | ((with_reducible refine gate_callee (f := 22) rfl ?_); refine goesL_ (some 71) rfl rfl Try.func22 (by kernel_rfl) rfl #[.string x0_2] rfl (by (try simp only [List.map_toArray, List.map_cons, List.map_nil]); first | done | rfl | (simp only [List.length_drop, List.length_take]; rfl)) ?_; (with_reducible refine (wapentakeref01_ReadS.calls kj13 x0_2 t208 t209 t210 _ A20.out).mono ?_); rintro e w28 ⟨rfl, hb⟩; refine ⟨_, rfl, ?_⟩; have n0_ := Aside0.mk (below_step (by repeat (first | (with_reducible first | exact HB.out | apply below_alloc | apply pw_below_drewN | apply below_drew1) | exact HB.out)) hb); clear HB; have HB := n0_; clear n0_; (try clear hb); (try clear hb2); (try clear hk); (try clear hi)))
                      go_ret
                      exact ⟨by first | rfl | (simp [errW_none, errW_some] <;> rfl) | (simp [*, errW_none, errW_some] <;> rfl), by repeat (first | (with_reducible first | exact HB.out | apply below_alloc | apply pw_below_drewN | apply below_drew1) | exact HB.out)⟩
                  · rw [if_neg c21] at H
                    have c21b0 : (t205.toList == t208.toList) = false := beq_eq_false_iff_ne.mpr c21
                    have c21b1 : (t205.toList != t208.toList) = true := bne_iff_ne.mpr c21
                    obtain rfl := Option.some.inj H
                    go_wp2_with (first | ((with_reducible refine gate_callee (f := 18) rfl ?_); refine goesL_ (some 65) rfl rfl Try.func18 (by kernel_rfl) rfl #[.string x0_2] rfl (by (try simp only [List.map_toArray, List.map_cons, List.map_nil]); first | done | rfl | (simp only [List.length_drop, List.length_take]; rfl)) ?_; (with_reducible refine (num_ReadS.calls kj13 x0_2 t205 t206 t207 _ A19.out).mono ?_); rintro e w' ⟨rfl, ⟨nd, rfl⟩⟩; refine ⟨_, rfl, ?_⟩) | ((with_reducible refine gate_callee (f := 22) rfl ?_); refine goesL_ (some 71) rfl rfl Try.func22 (by kernel_rfl) rfl #[.string x0_2] rfl (by (try simp only [List.map_toArray, List.map_cons, List.map_nil]); first | done | rfl | (simp only [List.length_drop, List.length_take]; rfl)) ?_; (with_reducible refine (wapentakeref01_ReadS.calls kj13 x0_2 t208 t209 t210 _ A20.out).mono ?_); rintro e w29 ⟨rfl, hb⟩; refine ⟨_, rfl, ?_⟩; have n0_ := Aside0.mk (below_step (by repeat (first | (with_reducible first | exact HB.out | apply below_alloc | apply pw_below_drewN | apply below_drew1) | exact HB.out)) hb); clear HB; have HB := n0_; clear n0_; (try clear hb); (try clear hb2); (try clear hk); (try clear hi)))
                    go_ret
                    exact ⟨by first | rfl | (simp [errW_none, errW_some] <;> rfl) | (simp [*, errW_none, errW_some] <;> rfl), by repeat (first | (with_reducible first | exact HB.out | apply below_alloc | apply pw_below_drewN | apply below_drew1) | exact HB.out)⟩

/-- THE ONE PURE STATEMENT of wapentakelaw01_NumReads: yours. -/
def wapentakelaw01_NumReads.Pure : Prop := ∀ (a0 : ByteArray) (a1 : Int), a0.size ≤ 140737488351232 → (Lit.int .i64 a1).wf = true → ∃ k, wapentakelaw01_NumReads.f k a0 a1 = some true
theorem wapentakelaw01_NumReads.walk (P : wapentakelaw01_NumReads.Pure) (a0 : ByteArray) (a1 : Int) (w : World) (w0 : a0.size ≤ 140737488351232) (w1 : (Lit.int .i64 a1).wf = true) :
    Calls Try.prog 6 #[.string a0, .int .i64 a1] w fun e w' => e = .returned (.bool true) ∧ Below w.heap.size w w' := by
  obtain ⟨k, h⟩ := P a0 a1 w0 w1
  refine (wapentakelaw01_NumReads.calls k a0 a1 true w h).mono ?_
  rintro e w' ⟨rfl, hd⟩
  exact ⟨rfl, hd⟩

end Go.Proofs.Ythdjecgiefednaa.P
