-- Written by wip/tools/myprint.sh out of the translation, over the kit's print with a patch. Not trusted: Lean checks it.
import Derived.Test.YtimfgflcflhfcaaPx0
import Derived.Test.YtimfgflcflhfcaaPx8
import Derived.Test.YtimfgflcflhfcaaPx10
import Derived.Test.YtimfgflcflhfcaaPx20
namespace Go.Proofs.Ytimfgflcflhfcaa.P
open Go.RowKit Go.Proofs.YtimfgflcflhfcaaW.PrintWords Go.Proofs.YtimfgflcflhfcaaW.PrintLast Go.Proofs.YtimfgflcflhfcaaW.PrintMore Go.Proofs.Ytimfgflcflhfcaa.Num
attribute [local go_sem] max2_int min2_int max_two min_two max_three min_three max_four min_four   -- for this text's walks alone
set_option linter.unusedVariables false
set_option linter.unusedSimpArgs false

/-! ### wapentakelaw04_EntryMembers: function 6 -/
def wapentakelaw04_EntryMembers.l0 : Nat → Int → List Int → Int → Int → Option (Bool)
  | 0, _, _, _, _ => none
  | k + 1, x0, x3, x4, x5 => if x5 ≤ 5 then ((wapentakeref04_Is.f k x0 x5).bind fun t385 => (if t385 = true then (if x4 ≥ (x3.length : Int) then (some false) else (if 0 ≤ x4 then (if x4 < (x3.length : Int) then (if (wrap64 (rd x3 x4)) = x5 then (wapentakelaw04_EntryMembers.l0 k x0 x3 (wrap64 (x4 + 1)) (wrap64 (x5 + 1))) else (some false)) else (none)) else (none))) else (wapentakelaw04_EntryMembers.l0 k x0 x3 x4 (wrap64 (x5 + 1))))) else ((entry_Majority.f x0).bind fun t383 => (if x4 = (x3.length : Int) then (if (wrap64 (2 * t383)) > x4 then (if (wrap64 (2 * (wrap64 (t383 - 1)))) ≤ x4 then ((wapentakelaw04_awake.f k).bind fun t384 => (some t384)) else (some false)) else (some false)) else (some false)))
def wapentakelaw04_EntryMembers.f (k : Nat) (a0 : Int) : Option (Bool) := (entry_Members.f k a0).bind fun t380 => (wapentakelaw04_EntryMembers.l0 k a0 t380 0 1)
theorem wapentakelaw04_EntryMembers.mono_l : ∀ k, (∀ y0 y1 y2 y3, LeO (wapentakelaw04_EntryMembers.l0 k y0 y1 y2 y3) (wapentakelaw04_EntryMembers.l0 (k + 1) y0 y1 y2 y3))
  | 0 => fun _ _ _ _ r h => by simp [wapentakelaw04_EntryMembers.l0] at h
  | k + 1 => by
    have ih0 := wapentakelaw04_EntryMembers.mono_l k
    · intro y0 y1 y2 y3
      unfold wapentakelaw04_EntryMembers.l0
      repeat' first
      | (with_reducible exact ih0 _ _ _ _)
      | (with_reducible exact entry_Members.mono _ _)
      | (with_reducible exact wapentakelaw04_awake.mono _)
      | (with_reducible exact wapentakeref04_Is.mono _ _ _)
      | (with_reducible exact LeO.refl _)
      | (with_reducible exact LeO.none _)
      | (with_reducible refine LeO.ite ?_ ?_)
      | (with_reducible refine LeO.bind ?_ (fun _ => ?_))
      | exact ih0 _ _ _ _
      | exact entry_Members.mono _ _
      | exact wapentakelaw04_awake.mono _
      | exact wapentakeref04_Is.mono _ _ _
      | exact LeO.none _
      | refine LeO.ite ?_ ?_
      | refine LeO.bind ?_ (fun _ => ?_)
theorem wapentakelaw04_EntryMembers.mono : ∀ a0 k, LeO (wapentakelaw04_EntryMembers.f k a0) (wapentakelaw04_EntryMembers.f (k + 1) a0) := by
  intro a0 k
  have ih0 := wapentakelaw04_EntryMembers.mono_l k
  unfold wapentakelaw04_EntryMembers.f
  repeat' first
      | (with_reducible exact ih0 _ _ _ _)
      | (with_reducible exact entry_Members.mono _ _)
      | (with_reducible exact wapentakelaw04_awake.mono _)
      | (with_reducible exact wapentakeref04_Is.mono _ _ _)
      | (with_reducible exact LeO.refl _)
      | (with_reducible exact LeO.none _)
      | (with_reducible refine LeO.ite ?_ ?_)
      | (with_reducible refine LeO.bind ?_ (fun _ => ?_))
      | exact ih0 _ _ _ _
      | exact entry_Members.mono _ _
      | exact wapentakelaw04_awake.mono _
      | exact wapentakeref04_Is.mono _ _ _
      | exact LeO.none _
      | refine LeO.ite ?_ ?_
      | refine LeO.bind ?_ (fun _ => ?_)
set_option maxHeartbeats 8000000 in
set_option maxRecDepth 100000 in
theorem wapentakelaw04_EntryMembers.calls (k : Nat) (a0 : Int) (r : Bool) (w : World) (h : wapentakelaw04_EntryMembers.f k a0 = some r) (hr_ : r = true) :
    Calls Try.prog 6 #[.int .u8 a0] w fun e w' => e = .returned (.bool r) ∧ Below w.heap.size w w' := by
  have HB := Aside0.mk (Below.refl w.heap.size w)
  have H : ((entry_Members.f k a0).bind fun t380 => (wapentakelaw04_EntryMembers.l0 k a0 t380 0 1)) = some r := h
  clear h
  replace H := Option.bind_eq_some_iff.mp H
  obtain ⟨t380, A20, H⟩ := H
  replace H : (wapentakelaw04_EntryMembers.l0 k a0 t380 0 1) = some r := H
  have A2 := Aside0.mk A20
  clear A20
  have H' := Aside0.mk H
  clear H
  go_enter Try.func6, Try.ntmps6
  go_wp2_with (first | ((with_reducible refine gate_callee (f := 13) rfl ?_); refine goesL_ (some 8) rfl rfl Try.func13 (by kernel_rfl) rfl #[.int .u8 a0] rfl (by (try simp only [List.map_toArray, List.map_cons, List.map_nil]); first | done | rfl | (simp only [List.length_drop, List.length_take]; rfl)) ?_; (with_reducible refine (entry_Members.calls k a0 t380 _ A2.out).mono ?_); rintro e w3 ⟨v381, rfl, ho0, hb⟩; refine ⟨_, rfl, ?_⟩; have n0_ := Aside0.mk (Kd.R_lower ho0 (below_size (by repeat (first | (with_reducible first | exact HB.out | apply below_alloc | apply pw_below_drewN | apply below_drew1) | exact HB.out)))); have n1_ := Aside0.mk (below_step (by repeat (first | (with_reducible first | exact HB.out | apply below_alloc | apply pw_below_drewN | apply below_drew1) | exact HB.out)) hb); clear HB; have HO382 := n0_; have HB := n1_; clear n0_ n1_; (try clear hb); (try clear hb2); (try clear hk); (try clear hi); (try clear ho0)))
  go_loopg [4, 5] k (fun kq v4 v5 w' => ∃ (x4_1 : Int) (x5_1 : Int), v4 = .int .i64 x4_1 ∧ v5 = .int .i64 x5_1 ∧ Aside0 (wapentakelaw04_EntryMembers.l0 kq a0 t380 x4_1 x5_1 = some r) ∧ Aside0 (kq ≤ k) ∧ Aside0 (Kd.R (Kd.int .u8) 5 w' w.heap.size (fun _ => True) v381 t380) ∧ Aside0 (Below w.heap.size w w'))
  case atStart => exact ⟨(0), (1), (by first | (with_reducible rfl) | (simp; done) | (simp [*]; done) | (refine congrArg (Value.int _) ?_; unfold wrap64; omega) | rfl), (by first | (with_reducible rfl) | (simp; done) | (simp [*]; done) | (refine congrArg (Value.int _) ?_; unfold wrap64; omega) | rfl), H', ⟨Nat.le_refl _⟩, ⟨by (with_reducible repeat (first | apply Kd.R_alloc | apply Kd.R_drewN | apply Kd.R_drew)); exact HO382.out⟩, ⟨by repeat (first | (with_reducible first | exact HB.out | apply below_alloc | apply pw_below_drewN | apply below_drew1) | exact HB.out)⟩⟩
  case round =>
    clear H'
    try clear c1
    try clear p2
    obtain ⟨x4_1, x5_1, rfl, rfl, HA, HK1, HO_3, HB⟩ := hrel
    cases gk with
    | zero => exact absurd HA.out (by simp [wapentakelaw04_EntryMembers.l0])
    | succ k1 =>
      have H := HA.out
      clear HA
      simp only [wapentakelaw04_EntryMembers.l0] at H
      by_cases c4 : x5_1 ≤ 5
      · rw [if_pos c4] at H
        have c4b0 : decide (x5_1 ≤ 5) = true := decide_eq_true c4
        clear c4
        replace H := Option.bind_eq_some_iff.mp H
        obtain ⟨t385, A50, H⟩ := H
        replace H : (if t385 = true then (if x4_1 ≥ (t380.length : Int) then (some false) else (if 0 ≤ x4_1 then (if x4_1 < (t380.length : Int) then (if (wrap64 (rd t380 x4_1)) = x5_1 then (wapentakelaw04_EntryMembers.l0 k1 a0 t380 (wrap64 (x4_1 + 1)) (wrap64 (x5_1 + 1))) else (some false)) else (none)) else (none))) else (wapentakelaw04_EntryMembers.l0 k1 a0 t380 x4_1 (wrap64 (x5_1 + 1)))) = some r := H
        have A5 := Aside0.mk A50
        clear A50
        by_cases c6 : t385 = true
        · subst c6
          have H1 : (if x4_1 ≥ (t380.length : Int) then (some false) else (if 0 ≤ x4_1 then (if x4_1 < (t380.length : Int) then (if (wrap64 (rd t380 x4_1)) = x5_1 then (wapentakelaw04_EntryMembers.l0 k1 a0 t380 (wrap64 (x4_1 + 1)) (wrap64 (x5_1 + 1))) else (some false)) else (none)) else (none))) = some r := by rw [if_pos rfl] at H; exact H
          clear H
          have H := H1
          clear H1
          by_cases c7 : x4_1 ≥ (t380.length : Int)
          · rw [if_pos c7] at H
            have c7b0 : decide ((t380.length : Int) ≤ x4_1) = true := decide_eq_true c7
            clear c7
            exact absurd (Option.some.inj H) (by rw [hr_]; decide)
          · rw [if_neg c7] at H
            have c7b0 : decide ((t380.length : Int) ≤ x4_1) = false := decide_eq_false c7
            clear c7
            by_cases c8 : 0 ≤ x4_1
            · rw [if_pos c8] at H
              have c8b0 : decide (0 ≤ x4_1) = true := decide_eq_true c8
              clear c8
              by_cases c9 : x4_1 < (t380.length : Int)
              · rw [if_pos c9] at H
                have c9b0 : decide (x4_1 < (t380.length : Int)) = true := decide_eq_true c9
                clear c9
                by_cases c10 : (wrap64 (rd t380 x4_1)) = x5_1
                · rw [if_pos c10] at H
                  have c10b0 : ((wrap64 (rd t380 x4_1)) == x5_1) = true := beq_iff_eq.mpr c10
                  have c10b1 : ((wrap64 (rd t380 x4_1)) != x5_1) = false := bne_eq_false_iff_eq.mpr c10
                  clear c10
                  have H' := Aside0.mk H
                  clear H
                  go_wp2_with (first | ((with_reducible refine gate_callee (f := 18) rfl ?_); refine goesL_ (some 15) rfl rfl Try.func18 (by kernel_rfl) rfl #[.int .u8 a0, .int .i64 x5_1] rfl (by (try simp only [List.map_toArray, List.map_cons, List.map_nil]); first | done | rfl | (simp only [List.length_drop, List.length_take]; rfl)) ?_; (with_reducible refine (wapentakeref04_Is.calls k1 a0 x5_1 true _ A5.out).mono ?_); rintro e w' ⟨rfl, ⟨nd, rfl⟩⟩; refine ⟨_, rfl, ?_⟩; obtain ⟨Ao11, co11, eo11⟩ := Kd.R_slice HO_3.out; subst eo11; have p386 : 0 ≤ (x4_1 : Int) := of_decide_eq_true (by first | (with_reducible assumption) | assumption); have q386 : x4_1 < (t380.length : Int) := of_decide_eq_true (by first | (with_reducible assumption) | assumption); obtain ⟨ad386, e386, hx386_0⟩ := Kd.at_int (Kd.R_reads' HO_3.out).2.2 x4_1 p386 q386; cases e386; replace p386 := eq_true p386; replace q386 := eq_true q386))
                  go_roundg k1
                  case measure => have := HK1.out; omega
                  case rel => exact ⟨(wrap64 (x4_1 + 1)), (wrap64 (x5_1 + 1)), (by first | (with_reducible rfl) | (simp; done) | (simp [*]; done) | (refine congrArg (Value.int _) ?_; unfold wrap64; omega) | rfl), (by first | (with_reducible rfl) | (simp; done) | (simp [*]; done) | (refine congrArg (Value.int _) ?_; unfold wrap64; omega) | rfl), H', ⟨by have := HK1.out; omega⟩, ⟨by (with_reducible repeat (first | apply Kd.R_alloc | apply Kd.R_drewN | apply Kd.R_drew)); exact HO_3.out⟩, ⟨by repeat (first | (with_reducible first | exact HB.out | apply below_alloc | apply pw_below_drewN | apply below_drew1) | exact HB.out)⟩⟩
                · rw [if_neg c10] at H
                  have c10b0 : ((wrap64 (rd t380 x4_1)) == x5_1) = false := beq_eq_false_iff_ne.mpr c10
                  have c10b1 : ((wrap64 (rd t380 x4_1)) != x5_1) = true := bne_iff_ne.mpr c10
                  exact absurd (Option.some.inj H) (by rw [hr_]; decide)
              · rw [if_neg c9] at H
                exact absurd H (by simp)
            · rw [if_neg c8] at H
              exact absurd H (by simp)
        · replace c6 := Bool.eq_false_iff.mpr c6
          subst c6
          have H1 : (wapentakelaw04_EntryMembers.l0 k1 a0 t380 x4_1 (wrap64 (x5_1 + 1))) = some r := by rw [if_neg (show ¬ (false = true) by decide)] at H; exact H
          clear H
          have H := H1
          clear H1
          have H' := Aside0.mk H
          clear H
          go_wp2_with (first | ((with_reducible refine gate_callee (f := 18) rfl ?_); refine goesL_ (some 15) rfl rfl Try.func18 (by kernel_rfl) rfl #[.int .u8 a0, .int .i64 x5_1] rfl (by (try simp only [List.map_toArray, List.map_cons, List.map_nil]); first | done | rfl | (simp only [List.length_drop, List.length_take]; rfl)) ?_; (with_reducible refine (wapentakeref04_Is.calls k1 a0 x5_1 false _ A5.out).mono ?_); rintro e w' ⟨rfl, ⟨nd, rfl⟩⟩; refine ⟨_, rfl, ?_⟩))
          go_roundg k1
          case measure => have := HK1.out; omega
          case rel => exact ⟨(x4_1), (wrap64 (x5_1 + 1)), (by first | (with_reducible rfl) | (simp; done) | (simp [*]; done) | (refine congrArg (Value.int _) ?_; unfold wrap64; omega) | rfl), (by first | (with_reducible rfl) | (simp; done) | (simp [*]; done) | (refine congrArg (Value.int _) ?_; unfold wrap64; omega) | rfl), H', ⟨by have := HK1.out; omega⟩, ⟨by (with_reducible repeat (first | apply Kd.R_alloc | apply Kd.R_drewN | apply Kd.R_drew)); exact HO_3.out⟩, ⟨by repeat (first | (with_reducible first | exact HB.out | apply below_alloc | apply pw_below_drewN | apply below_drew1) | exact HB.out)⟩⟩
      · rw [if_neg c4] at H
        have c4b0 : decide (x5_1 ≤ 5) = false := decide_eq_false c4
        clear c4
        replace H := Option.bind_eq_some_iff.mp H
        obtain ⟨t383, A120, H⟩ := H
        replace H : (if x4_1 = (t380.length : Int) then (if (wrap64 (2 * t383)) > x4_1 then (if (wrap64 (2 * (wrap64 (t383 - 1)))) ≤ x4_1 then ((wapentakelaw04_awake.f k1).bind fun t384 => (some t384)) else (some false)) else (some false)) else (some false)) = some r := H
        have A12 := Aside0.mk A120
        clear A120
        by_cases c13 : x4_1 = (t380.length : Int)
        · rw [if_pos c13] at H
          have c13b0 : (x4_1 == (t380.length : Int)) = true := beq_iff_eq.mpr c13
          have c13b1 : (x4_1 != (t380.length : Int)) = false := bne_eq_false_iff_eq.mpr c13
          clear c13
          by_cases c14 : (wrap64 (2 * t383)) > x4_1
          · rw [if_pos c14] at H
            have c14b0 : decide (x4_1 < (wrap64 (2 * t383))) = true := decide_eq_true c14
            clear c14
            by_cases c15 : (wrap64 (2 * (wrap64 (t383 - 1)))) ≤ x4_1
            · rw [if_pos c15] at H
              have c15b0 : decide ((wrap64 (2 * (wrap64 (t383 - 1)))) ≤ x4_1) = true := decide_eq_true c15
              clear c15
              replace H := Option.bind_eq_some_iff.mp H
              obtain ⟨t384, A160, H⟩ := H
              replace H : (some t384) = some r := H
              have A16 := Aside0.mk A160
              clear A160
              clear hr_
              obtain rfl := Option.some.inj H
              go_wp2_with (first | ((with_reducible refine gate_callee (f := 12) rfl ?_); refine goesL_ (some 33) rfl rfl Try.func12 (by kernel_rfl) rfl #[.int .u8 a0] rfl (by (try simp only [List.map_toArray, List.map_cons, List.map_nil]); first | done | rfl | (simp only [List.length_drop, List.length_take]; rfl)) ?_; (with_reducible refine (entry_Majority.calls a0 t383 _ A12.out).mono ?_); rintro e w17 ⟨rfl, hb⟩; refine ⟨_, rfl, ?_⟩; have n0_ := Aside0.mk (Kd.R_below (by (with_reducible repeat (first | apply Kd.R_alloc | apply Kd.R_drewN | apply Kd.R_drew)); exact HO_3.out) hb); have n1_ := Aside0.mk (below_step (by repeat (first | (with_reducible first | exact HB.out | apply below_alloc | apply pw_below_drewN | apply below_drew1) | exact HB.out)) hb); clear HO_3; clear HB; have HO_3 := n0_; have HB := n1_; clear n0_ n1_; (try clear hb); (try clear hb2); (try clear hk); (try clear hi); obtain ⟨Ao18, co18, eo18⟩ := Kd.R_slice HO_3.out; subst eo18) | (go_at_call 14; (with_reducible refine (wapentakelaw04_awake.calls k1  t384 _ A16.out).mono ?_); rintro e w19 ⟨rfl, hb⟩; have n0_ := Aside0.mk (Kd.R_below (by (with_reducible repeat (first | apply Kd.R_alloc | apply Kd.R_drewN | apply Kd.R_drew)); exact HO_3.out) hb); have n1_ := Aside0.mk (below_step (by repeat (first | (with_reducible first | exact HB.out | apply below_alloc | apply pw_below_drewN | apply below_drew1) | exact HB.out)) hb); clear HO_3; clear HB; have HO_3 := n0_; have HB := n1_; clear n0_ n1_; (try clear hb); (try clear hb2); (try clear hk); (try clear hi)))
              go_ret
              exact ⟨by first | rfl | (simp [errW_none, errW_some] <;> rfl) | (simp [*, errW_none, errW_some] <;> rfl), by repeat (first | (with_reducible first | exact HB.out | apply below_alloc | apply pw_below_drewN | apply below_drew1) | exact HB.out)⟩
            · rw [if_neg c15] at H
              have c15b0 : decide ((wrap64 (2 * (wrap64 (t383 - 1)))) ≤ x4_1) = false := decide_eq_false c15
              clear c15
              exact absurd (Option.some.inj H) (by rw [hr_]; decide)
          · rw [if_neg c14] at H
            have c14b0 : decide (x4_1 < (wrap64 (2 * t383))) = false := decide_eq_false c14
            clear c14
            exact absurd (Option.some.inj H) (by rw [hr_]; decide)
        · rw [if_neg c13] at H
          have c13b0 : (x4_1 == (t380.length : Int)) = false := beq_eq_false_iff_ne.mpr c13
          have c13b1 : (x4_1 != (t380.length : Int)) = true := bne_iff_ne.mpr c13
          exact absurd (Option.some.inj H) (by rw [hr_]; decide)

/-- THE ONE PURE STATEMENT of wapentakelaw04_EntryMembers: yours. -/
def wapentakelaw04_EntryMembers.Pure : Prop := ∀ (a0 : Int), (Lit.int .u8 a0).wf = true → ∃ k, wapentakelaw04_EntryMembers.f k a0 = some true
theorem wapentakelaw04_EntryMembers.walk (P : wapentakelaw04_EntryMembers.Pure) (a0 : Int) (w : World) (w0 : (Lit.int .u8 a0).wf = true) :
    Calls Try.prog 6 #[.int .u8 a0] w fun e w' => e = .returned (.bool true) ∧ Below w.heap.size w w' := by
  obtain ⟨k, h⟩ := P a0 w0
  refine (wapentakelaw04_EntryMembers.calls k a0 true w h rfl).mono ?_
  rintro e w' ⟨rfl, hd⟩
  exact ⟨rfl, hd⟩

end Go.Proofs.Ytimfgflcflhfcaa.P
