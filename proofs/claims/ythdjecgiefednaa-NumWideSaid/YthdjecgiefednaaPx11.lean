-- Written by wip/tools/myprint.sh out of the translation, over the kit's print with a patch. Not trusted: Lean checks it.
import Derived.Test.YthdjecgiefednaaPx0
import Derived.Test.YthdjecgiefednaaPx1
import Derived.Test.YthdjecgiefednaaPx3
import Derived.Test.YthdjecgiefednaaPx7
namespace Go.Proofs.Ythdjecgiefednaa.P
open Go.RowKit Go.Proofs.YthdjecgiefednaaW.PrintWords Go.Proofs.YthdjecgiefednaaW.PrintLast Go.Proofs.YthdjecgiefednaaW.PrintMore Go.Proofs.Ythdjecgiefednaa.Num
attribute [local go_sem] max2_int min2_int max_two min_two max_three min_three max_four min_four   -- for this text's walks alone
set_option linter.unusedVariables false
set_option linter.unusedSimpArgs false

/-! ### wapentakelaw01_NumWide: function 7 -/
def wapentakelaw01_NumWide.j0 : Nat → Int → Int → Int → ByteArray → ByteArray → ByteArray → Bool → Option (Bool)
  | 0, _, _, _, _, _, _, _ => none
  | k + 1, x0, x1, x2, x3, x9, x10, x29 => if x29 = true then (if x9.toList = ([] : List UInt8) then (if x10.toList = ([] : List UInt8) then ((wapentakelaw01_awake.f k).bind fun t215 => (some t215)) else (some false)) else (some false)) else (if 0 ≤ (IntKind.u64.wrap (64 - (IntKind.u64.wrap (8 * (IntKind.u64.wrap (x2)))))) then (if x9.size + x3.size ≤ 9223372036854775807 then ((num_ReadU.f k (x9 ++ x3) x2).bind fun bt216 => (if (x9.size : Int) = x2 then (if (x10.size : Int) = x2 then (if bt216.2 = true then (if bt216.1 = (Go.bits .and .u64 x0 (shr .u64 18446744073709551615 (IntKind.u64.wrap (64 - (IntKind.u64.wrap (8 * (IntKind.u64.wrap (x2)))))))) then (if ((Op.bytesLess x9.toList x10.toList) == (decide ((Go.bits .and .u64 x0 (shr .u64 18446744073709551615 (IntKind.u64.wrap (64 - (IntKind.u64.wrap (8 * (IntKind.u64.wrap (x2)))))))) < (Go.bits .and .u64 x1 (shr .u64 18446744073709551615 (IntKind.u64.wrap (64 - (IntKind.u64.wrap (8 * (IntKind.u64.wrap (x2))))))))))) = true then ((wapentakelaw01_awake.f k).bind fun t218 => (some t218)) else (some false)) else (some false)) else (some false)) else (some false)) else (some false))) else (none)) else (none))
def wapentakelaw01_NumWide.f (k : Nat) (a0 : Int) (a1 : Int) (a2 : Int) (a3 : ByteArray) : Option (Bool) := if (a3.size : Int) > 100 then ((wapentakelaw01_awake.f k).bind fun t212 => (some t212)) else ((num_U.f k a0 a2).bind fun t213 => ((num_U.f k a1 a2).bind fun t214 => (if a2 < 1 then (wapentakelaw01_NumWide.j0 k a0 a1 a2 a3 t213 t214 true) else (wapentakelaw01_NumWide.j0 k a0 a1 a2 a3 t213 t214 (decide (a2 > 8))))))
theorem wapentakelaw01_NumWide.mono_l : ∀ k, (∀ y0 y1 y2 y3 y4 y5 y6, LeO (wapentakelaw01_NumWide.j0 k y0 y1 y2 y3 y4 y5 y6) (wapentakelaw01_NumWide.j0 (k + 1) y0 y1 y2 y3 y4 y5 y6))
  | 0 => fun _ _ _ _ _ _ _ r h => by simp [wapentakelaw01_NumWide.j0] at h
  | k + 1 => by
    have ih0 := wapentakelaw01_NumWide.mono_l k
    · intro y0 y1 y2 y3 y4 y5 y6
      unfold wapentakelaw01_NumWide.j0
      repeat' first
      | (with_reducible exact ih0 _ _ _ _ _ _ _)
      | (with_reducible exact num_ReadU.mono _ _ _)
      | (with_reducible exact num_U.mono _ _ _)
      | (with_reducible exact wapentakelaw01_awake.mono _)
      | (with_reducible exact LeO.refl _)
      | (with_reducible exact LeO.none _)
      | (with_reducible refine LeO.ite ?_ ?_)
      | (with_reducible refine LeO.bind ?_ (fun _ => ?_))
      | exact ih0 _ _ _ _ _ _ _
      | exact num_ReadU.mono _ _ _
      | exact num_U.mono _ _ _
      | exact wapentakelaw01_awake.mono _
      | exact LeO.none _
      | refine LeO.ite ?_ ?_
      | refine LeO.bind ?_ (fun _ => ?_)
theorem wapentakelaw01_NumWide.mono : ∀ a0 a1 a2 a3 k, LeO (wapentakelaw01_NumWide.f k a0 a1 a2 a3) (wapentakelaw01_NumWide.f (k + 1) a0 a1 a2 a3) := by
  intro a0 a1 a2 a3 k
  have ih0 := wapentakelaw01_NumWide.mono_l k
  unfold wapentakelaw01_NumWide.f
  repeat' first
      | (with_reducible exact ih0 _ _ _ _ _ _ _)
      | (with_reducible exact num_ReadU.mono _ _ _)
      | (with_reducible exact num_U.mono _ _ _)
      | (with_reducible exact wapentakelaw01_awake.mono _)
      | (with_reducible exact LeO.refl _)
      | (with_reducible exact LeO.none _)
      | (with_reducible refine LeO.ite ?_ ?_)
      | (with_reducible refine LeO.bind ?_ (fun _ => ?_))
      | exact ih0 _ _ _ _ _ _ _
      | exact num_ReadU.mono _ _ _
      | exact num_U.mono _ _ _
      | exact wapentakelaw01_awake.mono _
      | exact LeO.none _
      | refine LeO.ite ?_ ?_
      | refine LeO.bind ?_ (fun _ => ?_)
set_option maxHeartbeats 8000000 in
set_option maxRecDepth 100000 in
theorem wapentakelaw01_NumWide.calls (k : Nat) (a0 : Int) (a1 : Int) (a2 : Int) (a3 : ByteArray) (r : Bool) (w : World) (h : wapentakelaw01_NumWide.f k a0 a1 a2 a3 = some r) :
    Calls Try.prog 7 #[.int .u64 a0, .int .u64 a1, .int .i64 a2, .string a3] w fun e w' => e = .returned (.bool r) ∧ Below w.heap.size w w' := by
  have HB := Aside0.mk (Below.refl w.heap.size w)
  have H : (if (a3.size : Int) > 100 then ((wapentakelaw01_awake.f k).bind fun t212 => (some t212)) else ((num_U.f k a0 a2).bind fun t213 => ((num_U.f k a1 a2).bind fun t214 => (if a2 < 1 then (wapentakelaw01_NumWide.j0 k a0 a1 a2 a3 t213 t214 true) else (wapentakelaw01_NumWide.j0 k a0 a1 a2 a3 t213 t214 (decide (a2 > 8))))))) = some r := h
  clear h
  by_cases c5 : (a3.size : Int) > 100
  · rw [if_pos c5] at H
    have c5b0 : decide (100 < (a3.size : Int)) = true := decide_eq_true c5
    have c5b1 : decide (100 < a3.size) = true := decide_eq_true (by omega)
    clear c5
    replace H := Option.bind_eq_some_iff.mp H
    obtain ⟨t212, A60, H⟩ := H
    replace H : (some t212) = some r := H
    have A6 := Aside0.mk A60
    clear A60
    obtain rfl := Option.some.inj H
    go_enter Try.func7, Try.ntmps7
    go_wp2_with (first | ((with_reducible refine gate_callee (f := 10) rfl ?_); refine goesL_ (some 17) rfl rfl Try.func10 (by kernel_rfl) rfl #[] rfl (by (try simp only [List.map_toArray, List.map_cons, List.map_nil]); first | done | rfl | (simp only [List.length_drop, List.length_take]; rfl)) ?_; (with_reducible refine (wapentakelaw01_awake.calls k  t212 _ A6.out).mono ?_); rintro e w7 ⟨rfl, hb⟩; refine ⟨_, rfl, ?_⟩; have n0_ := Aside0.mk (below_step (by repeat (first | (with_reducible first | exact HB.out | apply below_alloc | apply pw_below_drewN | apply below_drew1) | exact HB.out)) hb); clear HB; have HB := n0_; clear n0_; (try clear hb); (try clear hb2); (try clear hk); (try clear hi)))
    go_ret
    exact ⟨by first | rfl | (simp [errW_none, errW_some] <;> rfl) | (simp [*, errW_none, errW_some] <;> rfl), by repeat (first | (with_reducible first | exact HB.out | apply below_alloc | apply pw_below_drewN | apply below_drew1) | exact HB.out)⟩
  · rw [if_neg c5] at H
    have c5b0 : decide (100 < (a3.size : Int)) = false := decide_eq_false c5
    have c5b1 : decide (100 < a3.size) = false := decide_eq_false (by omega)
    clear c5
    replace H := Option.bind_eq_some_iff.mp H
    obtain ⟨t213, A80, H⟩ := H
    replace H : ((num_U.f k a1 a2).bind fun t214 => (if a2 < 1 then (wapentakelaw01_NumWide.j0 k a0 a1 a2 a3 t213 t214 true) else (wapentakelaw01_NumWide.j0 k a0 a1 a2 a3 t213 t214 (decide (a2 > 8))))) = some r := H
    have A8 := Aside0.mk A80
    clear A80
    replace H := Option.bind_eq_some_iff.mp H
    obtain ⟨t214, A90, H⟩ := H
    replace H : (if a2 < 1 then (wapentakelaw01_NumWide.j0 k a0 a1 a2 a3 t213 t214 true) else (wapentakelaw01_NumWide.j0 k a0 a1 a2 a3 t213 t214 (decide (a2 > 8)))) = some r := H
    have A9 := Aside0.mk A90
    clear A90
    have HC10 := Aside0.mk H
    clear H
    go_enter Try.func7, Try.ntmps7
    go_upto_region 5 with (first | ((with_reducible refine gate_callee (f := 15) rfl ?_); refine goesL_ (some 20) rfl rfl Try.func15 (by kernel_rfl) rfl #[.int .u64 a0, .int .i64 a2] rfl (by (try simp only [List.map_toArray, List.map_cons, List.map_nil]); first | done | rfl | (simp only [List.length_drop, List.length_take]; rfl)) ?_; (with_reducible refine (num_U.calls k a0 a2 t213 _ A8.out).mono ?_); rintro e w11 ⟨rfl, hb⟩; refine ⟨_, rfl, ?_⟩; have n0_ := Aside0.mk (below_step (by repeat (first | (with_reducible first | exact HB.out | apply below_alloc | apply pw_below_drewN | apply below_drew1) | exact HB.out)) hb); clear HB; have HB := n0_; clear n0_; (try clear hb); (try clear hb2); (try clear hk); (try clear hi)) | ((with_reducible refine gate_callee (f := 15) rfl ?_); refine goesL_ (some 23) rfl rfl Try.func15 (by kernel_rfl) rfl #[.int .u64 a1, .int .i64 a2] rfl (by (try simp only [List.map_toArray, List.map_cons, List.map_nil]); first | done | rfl | (simp only [List.length_drop, List.length_take]; rfl)) ?_; (with_reducible refine (num_U.calls k a1 a2 t214 _ A9.out).mono ?_); rintro e w12 ⟨rfl, hb⟩; refine ⟨_, rfl, ?_⟩; have n0_ := Aside0.mk (below_step (by repeat (first | (with_reducible first | exact HB.out | apply below_alloc | apply pw_below_drewN | apply below_drew1) | exact HB.out)) hb); clear HB; have HB := n0_; clear n0_; (try clear hb); (try clear hb2); (try clear hk); (try clear hi)))
    (try simp only [Act.put, List.setIfInBounds_toArray, List.set_cons_zero, List.set_cons_succ])
    go_cut [29] (fun v29 wc => ∃ (kq : Nat) (x29_9 : Bool), v29 = .bool x29_9 ∧ Aside0 (wapentakelaw01_NumWide.j0 kq a0 a1 a2 a3 t213 t214 x29_9 = some r) ∧ Aside0 (kq ≤ k) ∧ Aside0 (Below w.heap.size w wc))
    case first =>
      have H := HC10.out
      clear HC10
      by_cases c13 : a2 < 1
      · rw [if_pos c13] at H
        have c13b0 : decide (a2 < 1) = true := decide_eq_true c13
        clear c13
        (first | rw [c13b0] | (simp only [i64_w, i32_w]; rw [c13b0]) | skip)
        have H' := Aside0.mk H
        clear H
        go_wp2
        go_meet
        case rel => exact ⟨_, (true), (by first | rfl | (simp; done) | (simp [*]; done)), H', ⟨by first | omega | exact Nat.le_refl _⟩, ⟨by repeat (first | (with_reducible first | exact HB.out | apply below_alloc | apply pw_below_drewN | apply below_drew1) | exact HB.out)⟩⟩
      · rw [if_neg c13] at H
        have c13b0 : decide (a2 < 1) = false := decide_eq_false c13
        clear c13
        (first | rw [c13b0] | (simp only [i64_w, i32_w]; rw [c13b0]) | skip)
        have H' := Aside0.mk H
        clear H
        go_wp2
        go_meet
        case rel => exact ⟨_, (decide (a2 > 8)), (by first | rfl | (simp; done) | (simp [*]; done)), H', ⟨by first | omega | exact Nat.le_refl _⟩, ⟨by repeat (first | (with_reducible first | exact HB.out | apply below_alloc | apply pw_below_drewN | apply below_drew1) | exact HB.out)⟩⟩
    case rest =>
      clear HC10
      try clear c1
      try clear p2
      try clear c5
      try clear c5b0
      try clear c5b1
      try clear c7
      try clear c10
      try clear c13
      try clear c13b0
      obtain ⟨kq, x29_9, rfl, HA, HJ9, HB⟩ := hcut
      cases kq with
      | zero => exact absurd HA.out (by simp [wapentakelaw01_NumWide.j0])
      | succ kj9 =>
        have H := HA.out
        clear HA
        simp only [wapentakelaw01_NumWide.j0] at H
        by_cases c14 : x29_9 = true
        · subst c14
          have H1 : (if t213.toList = ([] : List UInt8) then (if t214.toList = ([] : List UInt8) then ((wapentakelaw01_awake.f kj9).bind fun t215 => (some t215)) else (some false)) else (some false)) = some r := by rw [if_pos rfl] at H; exact H
          clear H
          have H := H1
          clear H1
          by_cases c15 : t213.toList = ([] : List UInt8)
          · rw [if_pos c15] at H
            have c15b0 : (t213.toList == ([] : List UInt8)) = true := beq_iff_eq.mpr c15
            have c15b1 : (t213.toList != ([] : List UInt8)) = false := bne_eq_false_iff_eq.mpr c15
            clear c15
            by_cases c16 : t214.toList = ([] : List UInt8)
            · rw [if_pos c16] at H
              have c16b0 : (t214.toList == ([] : List UInt8)) = true := beq_iff_eq.mpr c16
              have c16b1 : (t214.toList != ([] : List UInt8)) = false := bne_eq_false_iff_eq.mpr c16
              clear c16
              replace H := Option.bind_eq_some_iff.mp H
              obtain ⟨t215, A170, H⟩ := H
              replace H : (some t215) = some r := H
              have A17 := Aside0.mk A170
              clear A170
              obtain rfl := Option.some.inj H
              go_wp2_with (first | (go_at_call 10; (with_reducible refine (wapentakelaw01_awake.calls kj9  t215 _ A17.out).mono ?_); rintro e w18 ⟨rfl, hb⟩; have n0_ := Aside0.mk (below_step (by repeat (first | (with_reducible first | exact HB.out | apply below_alloc | apply pw_below_drewN | apply below_drew1) | exact HB.out)) hb); clear HB; have HB := n0_; clear n0_; (try clear hb); (try clear hb2); (try clear hk); (try clear hi)))
              go_ret
              exact ⟨by first | rfl | (simp [errW_none, errW_some] <;> rfl) | (simp [*, errW_none, errW_some] <;> rfl), by repeat (first | (with_reducible first | exact HB.out | apply below_alloc | apply pw_below_drewN | apply below_drew1) | exact HB.out)⟩
            · rw [if_neg c16] at H
              have c16b0 : (t214.toList == ([] : List UInt8)) = false := beq_eq_false_iff_ne.mpr c16
              have c16b1 : (t214.toList != ([] : List UInt8)) = true := bne_iff_ne.mpr c16
              obtain rfl := Option.some.inj H
              go_wp2
              go_ret
              exact ⟨by first | rfl | (simp [errW_none, errW_some] <;> rfl) | (simp [*, errW_none, errW_some] <;> rfl), by repeat (first | (with_reducible first | exact HB.out | apply below_alloc | apply pw_below_drewN | apply below_drew1) | exact HB.out)⟩
          · rw [if_neg c15] at H
            have c15b0 : (t213.toList == ([] : List UInt8)) = false := beq_eq_false_iff_ne.mpr c15
            have c15b1 : (t213.toList != ([] : List UInt8)) = true := bne_iff_ne.mpr c15
            obtain rfl := Option.some.inj H
            go_wp2
            go_ret
            exact ⟨by first | rfl | (simp [errW_none, errW_some] <;> rfl) | (simp [*, errW_none, errW_some] <;> rfl), by repeat (first | (with_reducible first | exact HB.out | apply below_alloc | apply pw_below_drewN | apply below_drew1) | exact HB.out)⟩
        · replace c14 := Bool.eq_false_iff.mpr c14
          subst c14
          have H1 : (if 0 ≤ (IntKind.u64.wrap (64 - (IntKind.u64.wrap (8 * (IntKind.u64.wrap (a2)))))) then (if t213.size + a3.size ≤ 9223372036854775807 then ((num_ReadU.f kj9 (t213 ++ a3) a2).bind fun bt216 => (if (t213.size : Int) = a2 then (if (t214.size : Int) = a2 then (if bt216.2 = true then (if bt216.1 = (Go.bits .and .u64 a0 (shr .u64 18446744073709551615 (IntKind.u64.wrap (64 - (IntKind.u64.wrap (8 * (IntKind.u64.wrap (a2)))))))) then (if ((Op.bytesLess t213.toList t214.toList) == (decide ((Go.bits .and .u64 a0 (shr .u64 18446744073709551615 (IntKind.u64.wrap (64 - (IntKind.u64.wrap (8 * (IntKind.u64.wrap (a2)))))))) < (Go.bits .and .u64 a1 (shr .u64 18446744073709551615 (IntKind.u64.wrap (64 - (IntKind.u64.wrap (8 * (IntKind.u64.wrap (a2))))))))))) = true then ((wapentakelaw01_awake.f kj9).bind fun t218 => (some t218)) else (some false)) else (some false)) else (some false)) else (some false)) else (some false))) else (none)) else (none)) = some r := by rw [if_neg (show ¬ (false = true) by decide)] at H; exact H
          clear H
          have H := H1
          clear H1
          obtain ⟨ji19, hji19⟩ : ∃ j_ : Int, (IntKind.u64.wrap (64 - (IntKind.u64.wrap (8 * (IntKind.u64.wrap (a2)))))) = j_ := ⟨_, rfl⟩
          replace H : (if 0 ≤ (ji19) then (if t213.size + a3.size ≤ 9223372036854775807 then ((num_ReadU.f kj9 (t213 ++ a3) a2).bind fun bt216 => (if (t213.size : Int) = a2 then (if (t214.size : Int) = a2 then (if bt216.2 = true then (if bt216.1 = (Go.bits .and .u64 a0 (shr .u64 18446744073709551615 (ji19))) then (if ((Op.bytesLess t213.toList t214.toList) == (decide ((Go.bits .and .u64 a0 (shr .u64 18446744073709551615 (ji19))) < (Go.bits .and .u64 a1 (shr .u64 18446744073709551615 (ji19)))))) = true then ((wapentakelaw01_awake.f kj9).bind fun t218 => (some t218)) else (some false)) else (some false)) else (some false)) else (some false)) else (some false))) else (none)) else (none)) = some r := by first | (rw [hji19] at H; exact H) | (simp only [hji19] at H ⊢; exact H)
          by_cases c20 : 0 ≤ (ji19)
          · rw [if_pos c20] at H
            have c20b0 := eq_true c20
            have c20b1 : decide (0 ≤ (ji19)) = true := decide_eq_true c20
            clear c20
            obtain ⟨ji21, hji21⟩ : ∃ j_ : Int, (shr .u64 18446744073709551615 (ji19)) = j_ := ⟨_, rfl⟩
            replace H : (if t213.size + a3.size ≤ 9223372036854775807 then ((num_ReadU.f kj9 (t213 ++ a3) a2).bind fun bt216 => (if (t213.size : Int) = a2 then (if (t214.size : Int) = a2 then (if bt216.2 = true then (if bt216.1 = (Go.bits .and .u64 a0 (ji21)) then (if ((Op.bytesLess t213.toList t214.toList) == (decide ((Go.bits .and .u64 a0 (ji21)) < (Go.bits .and .u64 a1 (ji21))))) = true then ((wapentakelaw01_awake.f kj9).bind fun t218 => (some t218)) else (some false)) else (some false)) else (some false)) else (some false)) else (some false))) else (none)) = some r := by first | (rw [hji21] at H; exact H) | (simp only [hji21] at H ⊢; exact H)
            have hji21_ : (18446744073709551615 / 2 ^ min (ji19).toNat 64) = ji21 := hji21
            have hji21z : (ji19) ≤ 64 → (18446744073709551615 / 2 ^ (ji19).toNat) = ji21 := shr_small hji21
            by_cases c22 : t213.size + a3.size ≤ 9223372036854775807
            · rw [if_pos c22] at H
              have c22b0 := eq_true c22
              have c22b1 : decide (t213.size + a3.size ≤ 9223372036854775807) = true := decide_eq_true c22
              try have c22b2 : (9223372036854775807 < t213.size + a3.size) = False := eq_false (Nat.not_lt.2 c22)
              replace H := Option.bind_eq_some_iff.mp H
              obtain ⟨⟨t216, t217⟩, A230, H⟩ := H
              replace H : (if (t213.size : Int) = a2 then (if (t214.size : Int) = a2 then (if t217 = true then (if t216 = (Go.bits .and .u64 a0 (ji21)) then (if ((Op.bytesLess t213.toList t214.toList) == (decide ((Go.bits .and .u64 a0 (ji21)) < (Go.bits .and .u64 a1 (ji21))))) = true then ((wapentakelaw01_awake.f kj9).bind fun t218 => (some t218)) else (some false)) else (some false)) else (some false)) else (some false)) else (some false)) = some r := H
              have A23 := Aside0.mk A230
              clear A230
              by_cases c24 : (t213.size : Int) = a2
              · rw [if_pos c24] at H
                have c24b0 : ((t213.size : Int) == a2) = true := beq_iff_eq.mpr c24
                have c24b1 : ((t213.size : Int) != a2) = false := bne_eq_false_iff_eq.mpr c24
                clear c24
                by_cases c25 : (t214.size : Int) = a2
                · rw [if_pos c25] at H
                  have c25b0 : ((t214.size : Int) == a2) = true := beq_iff_eq.mpr c25
                  have c25b1 : ((t214.size : Int) != a2) = false := bne_eq_false_iff_eq.mpr c25
                  clear c25
                  by_cases c26 : t217 = true
                  · subst c26
                    have H1 : (if t216 = (Go.bits .and .u64 a0 (ji21)) then (if ((Op.bytesLess t213.toList t214.toList) == (decide ((Go.bits .and .u64 a0 (ji21)) < (Go.bits .and .u64 a1 (ji21))))) = true then ((wapentakelaw01_awake.f kj9).bind fun t218 => (some t218)) else (some false)) else (some false)) = some r := by rw [if_pos rfl] at H; exact H
                    clear H
                    have H := H1
                    clear H1
                    by_cases c27 : t216 = (Go.bits .and .u64 a0 (ji21))
                    · rw [if_pos c27] at H
                      have c27b0 : (t216 == (Go.bits .and .u64 a0 (ji21))) = true := beq_iff_eq.mpr c27
                      have c27b1 : (t216 != (Go.bits .and .u64 a0 (ji21))) = false := bne_eq_false_iff_eq.mpr c27
                      clear c27
                      by_cases c28 : ((Op.bytesLess t213.toList t214.toList) == (decide ((Go.bits .and .u64 a0 (ji21)) < (Go.bits .and .u64 a1 (ji21))))) = true
                      · rw [if_pos c28] at H
                        have c28b0 : ((Op.bytesLess t213.toList t214.toList) == (decide ((Go.bits .and .u64 a0 (ji21)) < (Go.bits .and .u64 a1 (ji21))))) = true := c28
                        (try (have c28b1 : decide ((Op.bytesLess t213.toList t214.toList) = (decide ((Go.bits .and .u64 a0 (ji21)) < (Go.bits .and .u64 a1 (ji21))))) = true := by simpa using c28))
                        (try (have c28b2 : ((Op.bytesLess t213.toList t214.toList) == (decide ((Go.bits .and .u64 a0 (ji21)) < (Go.bits .and .u64 a1 (ji21))))) = true := by simpa using c28))
                        clear c28
                        replace H := Option.bind_eq_some_iff.mp H
                        obtain ⟨t218, A290, H⟩ := H
                        replace H : (some t218) = some r := H
                        have A29 := Aside0.mk A290
                        clear A290
                        obtain rfl := Option.some.inj H
                        go_wp2_with (first | ((with_reducible refine gate_callee (f := 19) rfl ?_); refine goesL_ (some 49) rfl rfl Try.func19 (by kernel_rfl) rfl #[.string (t213 ++ a3), .int .i64 a2] rfl (by (try simp only [List.map_toArray, List.map_cons, List.map_nil]); first | done | rfl | (simp only [List.length_drop, List.length_take]; rfl)) ?_; (with_reducible refine (num_ReadU.calls kj9 (t213 ++ a3) a2 t216 true _ A23.out).mono ?_); rintro e w' ⟨rfl, ⟨nd, rfl⟩⟩; refine ⟨_, rfl, ?_⟩) | (go_at_call 10; (with_reducible refine (wapentakelaw01_awake.calls kj9  t218 _ A29.out).mono ?_); rintro e w30 ⟨rfl, hb⟩; have n0_ := Aside0.mk (below_step (by repeat (first | (with_reducible first | exact HB.out | apply below_alloc | apply pw_below_drewN | apply below_drew1) | exact HB.out)) hb); clear HB; have HB := n0_; clear n0_; (try clear hb); (try clear hb2); (try clear hk); (try clear hi)))
                        go_ret
                        exact ⟨by first | rfl | (simp [errW_none, errW_some] <;> rfl) | (simp only [← hji19, ← hji21]; first | rfl | (simp [errW_none, errW_some] <;> rfl)) | (simp [*, errW_none, errW_some] <;> rfl), by repeat (first | (with_reducible first | exact HB.out | apply below_alloc | apply pw_below_drewN | apply below_drew1) | exact HB.out)⟩
                      · rw [if_neg c28] at H
                        have c28b0 : ((Op.bytesLess t213.toList t214.toList) == (decide ((Go.bits .and .u64 a0 (ji21)) < (Go.bits .and .u64 a1 (ji21))))) = false := by simpa using c28
                        (try (have c28b1 : decide ((Op.bytesLess t213.toList t214.toList) = (decide ((Go.bits .and .u64 a0 (ji21)) < (Go.bits .and .u64 a1 (ji21))))) = false := by simpa using c28))
                        (try (have c28b2 : ((Op.bytesLess t213.toList t214.toList) == (decide ((Go.bits .and .u64 a0 (ji21)) < (Go.bits .and .u64 a1 (ji21))))) = false := by simpa using c28))
                        (try (have c28b3 : ¬ ((Op.bytesLess t213.toList t214.toList) = (decide ((Go.bits .and .u64 a0 (ji21)) < (Go.bits .and .u64 a1 (ji21))))) := by simpa using c28))
                        clear c28
                        obtain rfl := Option.some.inj H
                        go_wp2_with (first | ((with_reducible refine gate_callee (f := 19) rfl ?_); refine goesL_ (some 49) rfl rfl Try.func19 (by kernel_rfl) rfl #[.string (t213 ++ a3), .int .i64 a2] rfl (by (try simp only [List.map_toArray, List.map_cons, List.map_nil]); first | done | rfl | (simp only [List.length_drop, List.length_take]; rfl)) ?_; (with_reducible refine (num_ReadU.calls kj9 (t213 ++ a3) a2 t216 true _ A23.out).mono ?_); rintro e w' ⟨rfl, ⟨nd, rfl⟩⟩; refine ⟨_, rfl, ?_⟩))
                        go_ret
                        exact ⟨by first | rfl | (simp [errW_none, errW_some] <;> rfl) | (simp only [← hji19, ← hji21]; first | rfl | (simp [errW_none, errW_some] <;> rfl)) | (simp [*, errW_none, errW_some] <;> rfl), by repeat (first | (with_reducible first | exact HB.out | apply below_alloc | apply pw_below_drewN | apply below_drew1) | exact HB.out)⟩
                    · rw [if_neg c27] at H
                      have c27b0 : (t216 == (Go.bits .and .u64 a0 (ji21))) = false := beq_eq_false_iff_ne.mpr c27
                      have c27b1 : (t216 != (Go.bits .and .u64 a0 (ji21))) = true := bne_iff_ne.mpr c27
                      obtain rfl := Option.some.inj H
                      go_wp2_with (first | ((with_reducible refine gate_callee (f := 19) rfl ?_); refine goesL_ (some 49) rfl rfl Try.func19 (by kernel_rfl) rfl #[.string (t213 ++ a3), .int .i64 a2] rfl (by (try simp only [List.map_toArray, List.map_cons, List.map_nil]); first | done | rfl | (simp only [List.length_drop, List.length_take]; rfl)) ?_; (with_reducible refine (num_ReadU.calls kj9 (t213 ++ a3) a2 t216 true _ A23.out).mono ?_); rintro e w' ⟨rfl, ⟨nd, rfl⟩⟩; refine ⟨_, rfl, ?_⟩))
                      go_ret
                      exact ⟨by first | rfl | (simp [errW_none, errW_some] <;> rfl) | (simp only [← hji19, ← hji21]; first | rfl | (simp [errW_none, errW_some] <;> rfl)) | (simp [*, errW_none, errW_some] <;> rfl), by repeat (first | (with_reducible first | exact HB.out | apply below_alloc | apply pw_below_drewN | apply below_drew1) | exact HB.out)⟩
                  · replace c26 := Bool.eq_false_iff.mpr c26
                    subst c26
                    have H1 : (some false) = some r := by rw [if_neg (show ¬ (false = true) by decide)] at H; exact H
                    clear H
                    have H := H1
                    clear H1
                    obtain rfl := Option.some.inj H
                    go_wp2_with (first | ((with_reducible refine gate_callee (f := 19) rfl ?_); refine goesL_ (some 49) rfl rfl Try.func19 (by kernel_rfl) rfl #[.string (t213 ++ a3), .int .i64 a2] rfl (by (try simp only [List.map_toArray, List.map_cons, List.map_nil]); first | done | rfl | (simp only [List.length_drop, List.length_take]; rfl)) ?_; (with_reducible refine (num_ReadU.calls kj9 (t213 ++ a3) a2 t216 false _ A23.out).mono ?_); rintro e w' ⟨rfl, ⟨nd, rfl⟩⟩; refine ⟨_, rfl, ?_⟩))
                    go_ret
                    exact ⟨by first | rfl | (simp [errW_none, errW_some] <;> rfl) | (simp only [← hji19, ← hji21]; first | rfl | (simp [errW_none, errW_some] <;> rfl)) | (simp [*, errW_none, errW_some] <;> rfl), by repeat (first | (with_reducible first | exact HB.out | apply below_alloc | apply pw_below_drewN | apply below_drew1) | exact HB.out)⟩
                · rw [if_neg c25] at H
                  have c25b0 : ((t214.size : Int) == a2) = false := beq_eq_false_iff_ne.mpr c25
                  have c25b1 : ((t214.size : Int) != a2) = true := bne_iff_ne.mpr c25
                  obtain rfl := Option.some.inj H
                  go_wp2_with (first | ((with_reducible refine gate_callee (f := 19) rfl ?_); refine goesL_ (some 49) rfl rfl Try.func19 (by kernel_rfl) rfl #[.string (t213 ++ a3), .int .i64 a2] rfl (by (try simp only [List.map_toArray, List.map_cons, List.map_nil]); first | done | rfl | (simp only [List.length_drop, List.length_take]; rfl)) ?_; (with_reducible refine (num_ReadU.calls kj9 (t213 ++ a3) a2 t216 t217 _ A23.out).mono ?_); rintro e w' ⟨rfl, ⟨nd, rfl⟩⟩; refine ⟨_, rfl, ?_⟩))
                  go_ret
                  exact ⟨by first | rfl | (simp [errW_none, errW_some] <;> rfl) | (simp only [← hji19, ← hji21]; first | rfl | (simp [errW_none, errW_some] <;> rfl)) | (simp [*, errW_none, errW_some] <;> rfl), by repeat (first | (with_reducible first | exact HB.out | apply below_alloc | apply pw_below_drewN | apply below_drew1) | exact HB.out)⟩
              · rw [if_neg c24] at H
                have c24b0 : ((t213.size : Int) == a2) = false := beq_eq_false_iff_ne.mpr c24
                have c24b1 : ((t213.size : Int) != a2) = true := bne_iff_ne.mpr c24
                obtain rfl := Option.some.inj H
                go_wp2_with (first | ((with_reducible refine gate_callee (f := 19) rfl ?_); refine goesL_ (some 49) rfl rfl Try.func19 (by kernel_rfl) rfl #[.string (t213 ++ a3), .int .i64 a2] rfl (by (try simp only [List.map_toArray, List.map_cons, List.map_nil]); first | done | rfl | (simp only [List.length_drop, List.length_take]; rfl)) ?_; (with_reducible refine (num_ReadU.calls kj9 (t213 ++ a3) a2 t216 t217 _ A23.out).mono ?_); rintro e w' ⟨rfl, ⟨nd, rfl⟩⟩; refine ⟨_, rfl, ?_⟩))
                go_ret
                exact ⟨by first | rfl | (simp [errW_none, errW_some] <;> rfl) | (simp only [← hji19, ← hji21]; first | rfl | (simp [errW_none, errW_some] <;> rfl)) | (simp [*, errW_none, errW_some] <;> rfl), by repeat (first | (with_reducible first | exact HB.out | apply below_alloc | apply pw_below_drewN | apply below_drew1) | exact HB.out)⟩
            · rw [if_neg c22] at H
              exact absurd H (by simp)
          · rw [if_neg c20] at H
            exact absurd H (by simp)

/-- THE ONE PURE STATEMENT of wapentakelaw01_NumWide: yours. -/
def wapentakelaw01_NumWide.Pure : Prop := ∀ (a0 : Int) (a1 : Int) (a2 : Int) (a3 : ByteArray), (Lit.int .u64 a0).wf = true → (Lit.int .u64 a1).wf = true → (Lit.int .i64 a2).wf = true → a3.size ≤ 140737488351232 → ∃ k, wapentakelaw01_NumWide.f k a0 a1 a2 a3 = some true
theorem wapentakelaw01_NumWide.walk (P : wapentakelaw01_NumWide.Pure) (a0 : Int) (a1 : Int) (a2 : Int) (a3 : ByteArray) (w : World) (w0 : (Lit.int .u64 a0).wf = true) (w1 : (Lit.int .u64 a1).wf = true) (w2 : (Lit.int .i64 a2).wf = true) (w3 : a3.size ≤ 140737488351232) :
    Calls Try.prog 7 #[.int .u64 a0, .int .u64 a1, .int .i64 a2, .string a3] w fun e w' => e = .returned (.bool true) ∧ Below w.heap.size w w' := by
  obtain ⟨k, h⟩ := P a0 a1 a2 a3 w0 w1 w2 w3
  refine (wapentakelaw01_NumWide.calls k a0 a1 a2 a3 true w h).mono ?_
  rintro e w' ⟨rfl, hd⟩
  exact ⟨rfl, hd⟩

end Go.Proofs.Ythdjecgiefednaa.P
