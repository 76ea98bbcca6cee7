-- Written by wip/tools/myprint.sh out of the translation, over the kit's print with a patch. Not trusted: Lean checks it.
import Derived.Test.YthdjecgiefednaaPx0
import Derived.Test.YthdjecgiefednaaPx1
import Derived.Test.YthdjecgiefednaaPx3
namespace Go.Proofs.Ythdjecgiefednaa.P
open Go.RowKit Go.Proofs.YthdjecgiefednaaW.PrintWords Go.Proofs.YthdjecgiefednaaW.PrintLast Go.Proofs.YthdjecgiefednaaW.PrintMore Go.Proofs.Ythdjecgiefednaa.Num
attribute [local go_sem] max2_int min2_int max_two min_two max_three min_three max_four min_four   -- for this text's walks alone
set_option linter.unusedVariables false
set_option linter.unusedSimpArgs false

/-! ### wapentakelaw01_NumApart: function 3 -/
def wapentakelaw01_NumApart.j0 : Nat → Int → Int → ByteArray → ByteArray → Bool → Option (Bool)
  | 0, _, _, _, _, _ => none
  | k + 1, x0, x1, x5, x6, x51 => if x51 = true then (some false) else (if x0 = x1 then (if (x5.size : Int) = (x6.size : Int) then (if ((Op.bytesLess x5.toList x6.toList) == (decide (x0 < x1))) = true then ((wapentakelaw01_awake.f k).bind fun t127 => (some t127)) else (some false)) else ((wapentakelaw01_awake.f k).bind fun t128 => (some t128))) else (if (x5.size : Int) ≤ (x6.size : Int) then (if 0 ≤ (x5.size : Int) then (if (x6.extract 0 x5.size).toList = x5.toList then (some false) else (if (x5.size : Int) = (x6.size : Int) then (if ((Op.bytesLess x5.toList x6.toList) == (decide (x0 < x1))) = true then ((wapentakelaw01_awake.f k).bind fun t129 => (some t129)) else (some false)) else ((wapentakelaw01_awake.f k).bind fun t130 => (some t130)))) else (none)) else (if (x5.size : Int) = (x6.size : Int) then (if ((Op.bytesLess x5.toList x6.toList) == (decide (x0 < x1))) = true then ((wapentakelaw01_awake.f k).bind fun t131 => (some t131)) else (some false)) else ((wapentakelaw01_awake.f k).bind fun t132 => (some t132)))))
def wapentakelaw01_NumApart.f (k : Nat) (a0 : Int) (a1 : Int) : Option (Bool) := (num_V.f (([a0] : List Int))).bind fun t122 => ((num_V.f (([a1] : List Int))).bind fun t126 => (if (t122.size : Int) < 1 then (wapentakelaw01_NumApart.j0 k a0 a1 t122 t126 true) else (if (t122.size : Int) > 10 then (wapentakelaw01_NumApart.j0 k a0 a1 t122 t126 true) else (if (t126.size : Int) < 1 then (wapentakelaw01_NumApart.j0 k a0 a1 t122 t126 true) else (if (t126.size : Int) > 10 then (wapentakelaw01_NumApart.j0 k a0 a1 t122 t126 true) else (if ((t122.toList == t126.toList) != (a0 == a1)) = true then (wapentakelaw01_NumApart.j0 k a0 a1 t122 t126 true) else (if (t122.size : Int) < (t126.size : Int) then (wapentakelaw01_NumApart.j0 k a0 a1 t122 t126 (decide (a0 ≥ a1))) else (wapentakelaw01_NumApart.j0 k a0 a1 t122 t126 false))))))))
theorem wapentakelaw01_NumApart.mono_l : ∀ k, (∀ y0 y1 y2 y3 y4, LeO (wapentakelaw01_NumApart.j0 k y0 y1 y2 y3 y4) (wapentakelaw01_NumApart.j0 (k + 1) y0 y1 y2 y3 y4))
  | 0 => fun _ _ _ _ _ r h => by simp [wapentakelaw01_NumApart.j0] at h
  | k + 1 => by
    have ih0 := wapentakelaw01_NumApart.mono_l k
    · intro y0 y1 y2 y3 y4
      unfold wapentakelaw01_NumApart.j0
      repeat' first
      | (with_reducible exact ih0 _ _ _ _ _)
      | (with_reducible exact wapentakelaw01_awake.mono _)
      | (with_reducible exact LeO.refl _)
      | (with_reducible exact LeO.none _)
      | (with_reducible refine LeO.ite ?_ ?_)
      | (with_reducible refine LeO.bind ?_ (fun _ => ?_))
      | exact ih0 _ _ _ _ _
      | exact wapentakelaw01_awake.mono _
      | exact LeO.none _
      | refine LeO.ite ?_ ?_
      | refine LeO.bind ?_ (fun _ => ?_)
theorem wapentakelaw01_NumApart.mono : ∀ a0 a1 k, LeO (wapentakelaw01_NumApart.f k a0 a1) (wapentakelaw01_NumApart.f (k + 1) a0 a1) := by
  intro a0 a1 k
  have ih0 := wapentakelaw01_NumApart.mono_l k
  unfold wapentakelaw01_NumApart.f
  repeat' first
      | (with_reducible exact ih0 _ _ _ _ _)
      | (with_reducible exact wapentakelaw01_awake.mono _)
      | (with_reducible exact LeO.refl _)
      | (with_reducible exact LeO.none _)
      | (with_reducible refine LeO.ite ?_ ?_)
      | (with_reducible refine LeO.bind ?_ (fun _ => ?_))
      | exact ih0 _ _ _ _ _
      | exact wapentakelaw01_awake.mono _
      | exact LeO.none _
      | refine LeO.ite ?_ ?_
      | refine LeO.bind ?_ (fun _ => ?_)
set_option maxHeartbeats 8000000 in
set_option maxRecDepth 100000 in
theorem wapentakelaw01_NumApart.calls (k : Nat) (a0 : Int) (a1 : Int) (r : Bool) (w : World) (h : wapentakelaw01_NumApart.f k a0 a1 = some r) :
    Calls Try.prog 3 #[.int .u64 a0, .int .u64 a1] w fun e w' => e = .returned (.bool r) ∧ Below w.heap.size w w' := by
  have HB := Aside0.mk (Below.refl w.heap.size w)
  have H : ((num_V.f (([a0] : List Int))).bind fun t122 => ((num_V.f (([a1] : List Int))).bind fun t126 => (if (t122.size : Int) < 1 then (wapentakelaw01_NumApart.j0 k a0 a1 t122 t126 true) else (if (t122.size : Int) > 10 then (wapentakelaw01_NumApart.j0 k a0 a1 t122 t126 true) else (if (t126.size : Int) < 1 then (wapentakelaw01_NumApart.j0 k a0 a1 t122 t126 true) else (if (t126.size : Int) > 10 then (wapentakelaw01_NumApart.j0 k a0 a1 t122 t126 true) else (if ((t122.toList == t126.toList) != (a0 == a1)) = true then (wapentakelaw01_NumApart.j0 k a0 a1 t122 t126 true) else (if (t122.size : Int) < (t126.size : Int) then (wapentakelaw01_NumApart.j0 k a0 a1 t122 t126 (decide (a0 ≥ a1))) else (wapentakelaw01_NumApart.j0 k a0 a1 t122 t126 false))))))))) = some r := h
  clear h
  obtain ⟨y119, hy119⟩ : ∃ y_ : List Int, y_ = (([a0] : List Int)) := ⟨_, rfl⟩
  replace H : ((num_V.f y119).bind fun t122 => ((num_V.f (([a1] : List Int))).bind fun t126 => (if (t122.size : Int) < 1 then (wapentakelaw01_NumApart.j0 k a0 a1 t122 t126 true) else (if (t122.size : Int) > 10 then (wapentakelaw01_NumApart.j0 k a0 a1 t122 t126 true) else (if (t126.size : Int) < 1 then (wapentakelaw01_NumApart.j0 k a0 a1 t122 t126 true) else (if (t126.size : Int) > 10 then (wapentakelaw01_NumApart.j0 k a0 a1 t122 t126 true) else (if ((t122.toList == t126.toList) != (a0 == a1)) = true then (wapentakelaw01_NumApart.j0 k a0 a1 t122 t126 true) else (if (t122.size : Int) < (t126.size : Int) then (wapentakelaw01_NumApart.j0 k a0 a1 t122 t126 (decide (a0 ≥ a1))) else (wapentakelaw01_NumApart.j0 k a0 a1 t122 t126 false))))))))) = some r := by first | (rw [hy119]; with_reducible exact H) | (have H2_ := (Option.bind_some _ _).symm.trans H; rw [hy119]; with_reducible exact H2_) | (have H2_ := (Option.bind_some _ _).symm.trans H; with_reducible exact H2_) | with_reducible exact H | (rw [hy119]; exact H) | exact H
  have Ny119 := Aside0.mk hy119
  clear hy119
  replace H := Option.bind_eq_some_iff.mp H
  obtain ⟨t122, A30, H⟩ := H
  replace H : ((num_V.f (([a1] : List Int))).bind fun t126 => (if (t122.size : Int) < 1 then (wapentakelaw01_NumApart.j0 k a0 a1 t122 t126 true) else (if (t122.size : Int) > 10 then (wapentakelaw01_NumApart.j0 k a0 a1 t122 t126 true) else (if (t126.size : Int) < 1 then (wapentakelaw01_NumApart.j0 k a0 a1 t122 t126 true) else (if (t126.size : Int) > 10 then (wapentakelaw01_NumApart.j0 k a0 a1 t122 t126 true) else (if ((t122.toList == t126.toList) != (a0 == a1)) = true then (wapentakelaw01_NumApart.j0 k a0 a1 t122 t126 true) else (if (t122.size : Int) < (t126.size : Int) then (wapentakelaw01_NumApart.j0 k a0 a1 t122 t126 (decide (a0 ≥ a1))) else (wapentakelaw01_NumApart.j0 k a0 a1 t122 t126 false)))))))) = some r := H
  have A3 := Aside0.mk A30
  clear A30
  obtain ⟨y123, hy123⟩ : ∃ y_ : List Int, y_ = (([a1] : List Int)) := ⟨_, rfl⟩
  replace H : ((num_V.f y123).bind fun t126 => (if (t122.size : Int) < 1 then (wapentakelaw01_NumApart.j0 k a0 a1 t122 t126 true) else (if (t122.size : Int) > 10 then (wapentakelaw01_NumApart.j0 k a0 a1 t122 t126 true) else (if (t126.size : Int) < 1 then (wapentakelaw01_NumApart.j0 k a0 a1 t122 t126 true) else (if (t126.size : Int) > 10 then (wapentakelaw01_NumApart.j0 k a0 a1 t122 t126 true) else (if ((t122.toList == t126.toList) != (a0 == a1)) = true then (wapentakelaw01_NumApart.j0 k a0 a1 t122 t126 true) else (if (t122.size : Int) < (t126.size : Int) then (wapentakelaw01_NumApart.j0 k a0 a1 t122 t126 (decide (a0 ≥ a1))) else (wapentakelaw01_NumApart.j0 k a0 a1 t122 t126 false)))))))) = some r := by first | (rw [hy123]; with_reducible exact H) | (have H2_ := (Option.bind_some _ _).symm.trans H; rw [hy123]; with_reducible exact H2_) | (have H2_ := (Option.bind_some _ _).symm.trans H; with_reducible exact H2_) | with_reducible exact H | (rw [hy123]; exact H) | exact H
  have Ny123 := Aside0.mk hy123
  clear hy123
  replace H := Option.bind_eq_some_iff.mp H
  obtain ⟨t126, A40, H⟩ := H
  replace H : (if (t122.size : Int) < 1 then (wapentakelaw01_NumApart.j0 k a0 a1 t122 t126 true) else (if (t122.size : Int) > 10 then (wapentakelaw01_NumApart.j0 k a0 a1 t122 t126 true) else (if (t126.size : Int) < 1 then (wapentakelaw01_NumApart.j0 k a0 a1 t122 t126 true) else (if (t126.size : Int) > 10 then (wapentakelaw01_NumApart.j0 k a0 a1 t122 t126 true) else (if ((t122.toList == t126.toList) != (a0 == a1)) = true then (wapentakelaw01_NumApart.j0 k a0 a1 t122 t126 true) else (if (t122.size : Int) < (t126.size : Int) then (wapentakelaw01_NumApart.j0 k a0 a1 t122 t126 (decide (a0 ≥ a1))) else (wapentakelaw01_NumApart.j0 k a0 a1 t122 t126 false))))))) = some r := H
  have A4 := Aside0.mk A40
  clear A40
  have HC5 := Aside0.mk H
  clear H
  go_enter Try.func3, Try.ntmps3
  go_upto_region 3 with (first | ((with_reducible refine gate_dst (N := 8) rfl ?_); (try (refine gate_guard (by rfl) ?_; dsimp only)); refine Kd.R_lit (Kd.int .u64) _ 22 ?hg (N := 8) ?hd (xs := ([a0] : List Int)) (inner := [.int .u64 a0]) (ok := fun _ => True) (okp := fun _ => True) ?hr ?hp (fun _ hk => hk) trivial (Below.refl _ _) (Nat.le_refl _) (by simp) ?_; (case hd => rfl); (case hg => rfl); (case hr => first | (go_simp; done) | (go_simp; rfl)); (case hp => exact (Reps.one (show Kd.M (Kd.int .u64) _ _ _ a0 [.int .u64 a0] from rfl) (Reps.none _ _))); intro v120 w6 ho7 hb hg_ hnew_; clear hg_ hnew_; (first | rw [← Ny119.out] at ho7 | (simp only [Int.reduceToNat] at ho7; rw [← Ny119.out] at ho7)); have n0_ := Aside0.mk (Kd.R_lower ho7 (below_size (by repeat (first | (with_reducible first | exact HB.out | apply below_alloc | apply pw_below_drewN | apply below_drew1) | exact HB.out)))); have n1_ := Aside0.mk (below_step (by repeat (first | (with_reducible first | exact HB.out | apply below_alloc | apply pw_below_drewN | apply below_drew1) | exact HB.out)) hb); clear HB; have HO121 := n0_; have HB := n1_; clear n0_ n1_; clear hb ho7; obtain ⟨Ao8, co8, eo8⟩ := Kd.R_slice HO121.out; subst eo8) | ((with_reducible refine gate_callee (f := 9) rfl ?_); refine goesL_ (some 9) rfl rfl Try.func9 (by kernel_rfl) rfl #[.slice Ao8 y119.length co8] rfl (by (try simp only [List.map_toArray, List.map_cons, List.map_nil]); first | done | rfl | (simp only [List.length_drop, List.length_take]; rfl)) ?_; (with_reducible refine (num_V.calls _ _ y119 t122 _ ?side1 ?side2 A3.out).mono ?_); (case side1 => repeat (first | exact (Kd.R_reads' HO121.out).2.2 | (with_reducible refine Kd.C_alloc ?_ _) | (with_reducible refine Kd.C_drewN ?_ _) | (with_reducible refine Kd.C_drew ?_))); (case side2 => exact (Kd.R_reads' HO121.out).2.1); rintro e w9 ⟨rfl, hb⟩; refine ⟨_, rfl, ?_⟩; have n0_ := Aside0.mk (Kd.R_below (by (with_reducible repeat (first | apply Kd.R_alloc | apply Kd.R_drewN | apply Kd.R_drew)); exact HO121.out) hb); have n1_ := Aside0.mk (below_step (by repeat (first | (with_reducible first | exact HB.out | apply below_alloc | apply pw_below_drewN | apply below_drew1) | exact HB.out)) hb); clear HO121; clear HB; have HO121 := n0_; have HB := n1_; clear n0_ n1_; (try clear hb); (try clear hb2); (try clear hk); (try clear hi)) | ((with_reducible refine gate_dst (N := 11) rfl ?_); (try (refine gate_guard (by rfl) ?_; dsimp only)); refine Kd.R_lit (Kd.int .u64) _ 22 ?hg (N := 11) ?hd (xs := ([a1] : List Int)) (inner := [.int .u64 a1]) (ok := fun _ => True) (okp := fun _ => True) ?hr ?hp (fun _ hk => hk) trivial (Below.refl _ _) (Nat.le_refl _) (by simp) ?_; (case hd => rfl); (case hg => rfl); (case hr => first | (go_simp; done) | (go_simp; rfl)); (case hp => exact (Reps.one (show Kd.M (Kd.int .u64) _ _ _ a1 [.int .u64 a1] from rfl) (Reps.none _ _))); intro v124 w10 ho11 hb hg_ hnew_; clear hg_ hnew_; (first | rw [← Ny123.out] at ho11 | (simp only [Int.reduceToNat] at ho11; rw [← Ny123.out] at ho11)); have n0_ := Aside0.mk (Kd.R_elder' (by (with_reducible repeat (first | apply Kd.R_alloc | apply Kd.R_drewN | apply Kd.R_drew)); exact HO121.out) (Kd.R_base ho11) hb); have n1_ := Aside0.mk (Kd.R_lower (Kd.R_new' ho11 (Kd.R_lt (by (with_reducible repeat (first | apply Kd.R_alloc | apply Kd.R_drewN | apply Kd.R_drew)); exact HO121.out))) (below_size (by repeat (first | (with_reducible first | exact HB.out | apply below_alloc | apply pw_below_drewN | apply below_drew1) | exact HB.out)))); have n2_ := Aside0.mk (below_step (by repeat (first | (with_reducible first | exact HB.out | apply below_alloc | apply pw_below_drewN | apply below_drew1) | exact HB.out)) hb); clear HO121; clear HB; have HO121 := n0_; have HO125 := n1_; have HB := n2_; clear n0_ n1_ n2_; clear hb ho11; obtain ⟨Ao12, co12, eo12⟩ := Kd.R_slice HO125.out; subst eo12) | ((with_reducible refine gate_callee (f := 9) rfl ?_); refine goesL_ (some 12) rfl rfl Try.func9 (by kernel_rfl) rfl #[.slice Ao12 y123.length co12] rfl (by (try simp only [List.map_toArray, List.map_cons, List.map_nil]); first | done | rfl | (simp only [List.length_drop, List.length_take]; rfl)) ?_; (with_reducible refine (num_V.calls _ _ y123 t126 _ ?side1 ?side2 A4.out).mono ?_); (case side1 => repeat (first | exact (Kd.R_reads' HO125.out).2.2 | (with_reducible refine Kd.C_alloc ?_ _) | (with_reducible refine Kd.C_drewN ?_ _) | (with_reducible refine Kd.C_drew ?_))); (case side2 => exact (Kd.R_reads' HO125.out).2.1); rintro e w13 ⟨rfl, hb⟩; refine ⟨_, rfl, ?_⟩; have n0_ := Aside0.mk (Kd.R_below (by (with_reducible repeat (first | apply Kd.R_alloc | apply Kd.R_drewN | apply Kd.R_drew)); exact HO121.out) hb); have n1_ := Aside0.mk (Kd.R_below (by (with_reducible repeat (first | apply Kd.R_alloc | apply Kd.R_drewN | apply Kd.R_drew)); exact HO125.out) hb); have n2_ := Aside0.mk (below_step (by repeat (first | (with_reducible first | exact HB.out | apply below_alloc | apply pw_below_drewN | apply below_drew1) | exact HB.out)) hb); clear HO121; clear HO125; clear HB; have HO121 := n0_; have HO125 := n1_; have HB := n2_; clear n0_ n1_ n2_; (try clear hb); (try clear hb2); (try clear hk); (try clear hi)))
  (try simp only [Act.put, List.setIfInBounds_toArray, List.set_cons_zero, List.set_cons_succ])
  go_cut [51] (fun v51 wc => ∃ (kq : Nat) (x51_4 : Bool), v51 = .bool x51_4 ∧ Aside0 (wapentakelaw01_NumApart.j0 kq a0 a1 t122 t126 x51_4 = some r) ∧ Aside0 (kq ≤ k) ∧ Aside0 (Below w.heap.size w wc))
  case first =>
    have H := HC5.out
    clear HC5
    by_cases c14 : (t122.size : Int) < 1
    · rw [if_pos c14] at H
      have c14b0 : decide ((t122.size : Int) < 1) = true := decide_eq_true c14
      have c14b1 : decide (t122.size < 1) = true := decide_eq_true (by omega)
      clear c14
      (first | rw [c14b0] | (simp only [i64_w, i32_w]; rw [c14b0]) | skip)
      have H' := Aside0.mk H
      clear H
      go_wp2
      go_meet
      case rel => exact ⟨_, (true), (by first | rfl | (simp; done) | (simp [*]; done)), H', ⟨by first | omega | exact Nat.le_refl _⟩, ⟨by repeat (first | (with_reducible first | exact HB.out | apply below_alloc | apply pw_below_drewN | apply below_drew1) | exact HB.out)⟩⟩
    · rw [if_neg c14] at H
      have c14b0 : decide ((t122.size : Int) < 1) = false := decide_eq_false c14
      have c14b1 : decide (t122.size < 1) = false := decide_eq_false (by omega)
      clear c14
      (first | rw [c14b0] | (simp only [i64_w, i32_w]; rw [c14b0]) | skip)
      by_cases c15 : (t122.size : Int) > 10
      · rw [if_pos c15] at H
        have c15b0 : decide (10 < (t122.size : Int)) = true := decide_eq_true c15
        have c15b1 : decide (10 < t122.size) = true := decide_eq_true (by omega)
        clear c15
        have H' := Aside0.mk H
        clear H
        go_wp2
        go_meet
        case rel => exact ⟨_, (true), (by first | rfl | (simp; done) | (simp [*]; done)), H', ⟨by first | omega | exact Nat.le_refl _⟩, ⟨by repeat (first | (with_reducible first | exact HB.out | apply below_alloc | apply pw_below_drewN | apply below_drew1) | exact HB.out)⟩⟩
      · rw [if_neg c15] at H
        have c15b0 : decide (10 < (t122.size : Int)) = false := decide_eq_false c15
        have c15b1 : decide (10 < t122.size) = false := decide_eq_false (by omega)
        clear c15
        by_cases c16 : (t126.size : Int) < 1
        · rw [if_pos c16] at H
          have c16b0 : decide ((t126.size : Int) < 1) = true := decide_eq_true c16
          have c16b1 : decide (t126.size < 1) = true := decide_eq_true (by omega)
          clear c16
          have H' := Aside0.mk H
          clear H
          go_wp2
          go_meet
          case rel => exact ⟨_, (true), (by first | rfl | (simp; done) | (simp [*]; done)), H', ⟨by first | omega | exact Nat.le_refl _⟩, ⟨by repeat (first | (with_reducible first | exact HB.out | apply below_alloc | apply pw_below_drewN | apply below_drew1) | exact HB.out)⟩⟩
        · rw [if_neg c16] at H
          have c16b0 : decide ((t126.size : Int) < 1) = false := decide_eq_false c16
          have c16b1 : decide (t126.size < 1) = false := decide_eq_false (by omega)
          clear c16
          by_cases c17 : (t126.size : Int) > 10
          · rw [if_pos c17] at H
            have c17b0 : decide (10 < (t126.size : Int)) = true := decide_eq_true c17
            have c17b1 : decide (10 < t126.size) = true := decide_eq_true (by omega)
            clear c17
            have H' := Aside0.mk H
            clear H
            go_wp2
            go_meet
            case rel => exact ⟨_, (true), (by first | rfl | (simp; done) | (simp [*]; done)), H', ⟨by first | omega | exact Nat.le_refl _⟩, ⟨by repeat (first | (with_reducible first | exact HB.out | apply below_alloc | apply pw_below_drewN | apply below_drew1) | exact HB.out)⟩⟩
          · rw [if_neg c17] at H
            have c17b0 : decide (10 < (t126.size : Int)) = false := decide_eq_false c17
            have c17b1 : decide (10 < t126.size) = false := decide_eq_false (by omega)
            clear c17
            by_cases c18 : ((t122.toList == t126.toList) != (a0 == a1)) = true
            · rw [if_pos c18] at H
              have c18b0 : ((t122.toList == t126.toList) != (a0 == a1)) = true := c18
              (try (have c18b1 : decide ((t122.toList == t126.toList) = (a0 == a1)) = false := by simpa using c18))
              (try (have c18b2 : ((t122.toList == t126.toList) == (a0 == a1)) = false := by simpa using c18))
              (try (have c18b3 : ¬ ((t122.toList == t126.toList) = (a0 == a1)) := by simpa using c18))
              clear c18
              have H' := Aside0.mk H
              clear H
              go_wp2
              go_meet
              case rel => exact ⟨_, (true), (by first | rfl | (simp; done) | (simp [*]; done)), H', ⟨by first | omega | exact Nat.le_refl _⟩, ⟨by repeat (first | (with_reducible first | exact HB.out | apply below_alloc | apply pw_below_drewN | apply below_drew1) | exact HB.out)⟩⟩
            · rw [if_neg c18] at H
              have c18b0 : ((t122.toList == t126.toList) != (a0 == a1)) = false := by simpa using c18
              (try (have c18b1 : decide ((t122.toList == t126.toList) = (a0 == a1)) = true := by simpa using c18))
              (try (have c18b2 : ((t122.toList == t126.toList) == (a0 == a1)) = true := by simpa using c18))
              clear c18
              by_cases c19 : (t122.size : Int) < (t126.size : Int)
              · rw [if_pos c19] at H
                have c19b0 : decide ((t122.size : Int) < (t126.size : Int)) = true := decide_eq_true c19
                have c19b1 : decide (t122.size < t126.size) = true := decide_eq_true (Int.ofNat_lt.mp c19)
                clear c19
                have H' := Aside0.mk H
                clear H
                go_wp2
                go_meet
                case rel => exact ⟨_, (decide (a0 ≥ a1)), (by first | rfl | (simp; done) | (simp [*]; done)), H', ⟨by first | omega | exact Nat.le_refl _⟩, ⟨by repeat (first | (with_reducible first | exact HB.out | apply below_alloc | apply pw_below_drewN | apply below_drew1) | exact HB.out)⟩⟩
              · rw [if_neg c19] at H
                have c19b0 : decide ((t122.size : Int) < (t126.size : Int)) = false := decide_eq_false c19
                have c19b1 : decide (t122.size < t126.size) = false := decide_eq_false (fun h => c19 (Int.ofNat_lt.mpr h))
                clear c19
                have H' := Aside0.mk H
                clear H
                go_wp2
                go_meet
                case rel => exact ⟨_, (false), (by first | rfl | (simp; done) | (simp [*]; done)), H', ⟨by first | omega | exact Nat.le_refl _⟩, ⟨by repeat (first | (with_reducible first | exact HB.out | apply below_alloc | apply pw_below_drewN | apply below_drew1) | exact HB.out)⟩⟩
  case rest =>
    clear HC5
    try clear c1
    try clear p2
    try clear c3
    try clear c9
    try clear c14
    try clear c14b0
    try clear c14b1
    try clear c15
    try clear c15b0
    try clear c15b1
    try clear c16
    try clear c16b0
    try clear c16b1
    try clear c17
    try clear c17b0
    try clear c17b1
    try clear c18
    try clear c18b0
    try clear c18b1
    try clear c18b2
    try clear c19
    try clear c19b0
    try clear c19b1
    obtain ⟨kq, x51_4, rfl, HA, HJ4, HB⟩ := hcut
    cases kq with
    | zero => exact absurd HA.out (by simp [wapentakelaw01_NumApart.j0])
    | succ kj4 =>
      have H := HA.out
      clear HA
      simp only [wapentakelaw01_NumApart.j0] at H
      by_cases c20 : x51_4 = true
      · subst c20
        have H1 : (some false) = some r := by rw [if_pos rfl] at H; exact H
        clear H
        have H := H1
        clear H1
        obtain rfl := Option.some.inj H
        go_wp2
        go_ret
        exact ⟨by first | rfl | (simp [errW_none, errW_some] <;> rfl) | (simp [*, errW_none, errW_some] <;> rfl), by repeat (first | (with_reducible first | exact HB.out | apply below_alloc | apply pw_below_drewN | apply below_drew1) | exact HB.out)⟩
      · replace c20 := Bool.eq_false_iff.mpr c20
        subst c20
        have H1 : (if a0 = a1 then (if (t122.size : Int) = (t126.size : Int) then (if ((Op.bytesLess t122.toList t126.toList) == (decide (a0 < a1))) = true then ((wapentakelaw01_awake.f kj4).bind fun t127 => (some t127)) else (some false)) else ((wapentakelaw01_awake.f kj4).bind fun t128 => (some t128))) else (if (t122.size : Int) ≤ (t126.size : Int) then (if 0 ≤ (t122.size : Int) then (if (t126.extract 0 t122.size).toList = t122.toList then (some false) else (if (t122.size : Int) = (t126.size : Int) then (if ((Op.bytesLess t122.toList t126.toList) == (decide (a0 < a1))) = true then ((wapentakelaw01_awake.f kj4).bind fun t129 => (some t129)) else (some false)) else ((wapentakelaw01_awake.f kj4).bind fun t130 => (some t130)))) else (none)) else (if (t122.size : Int) = (t126.size : Int) then (if ((Op.bytesLess t122.toList t126.toList) == (decide (a0 < a1))) = true then ((wapentakelaw01_awake.f kj4).bind fun t131 => (some t131)) else (some false)) else ((wapentakelaw01_awake.f kj4).bind fun t132 => (some t132))))) = some r := by rw [if_neg (show ¬ (false = true) by decide)] at H; exact H
        clear H
        have H := H1
        clear H1
        by_cases c21 : a0 = a1
        · rw [if_pos c21] at H
          have c21b0 : (a0 == a1) = true := beq_iff_eq.mpr c21
          have c21b1 : (a0 != a1) = false := bne_eq_false_iff_eq.mpr c21
          clear c21
          by_cases c22 : (t122.size : Int) = (t126.size : Int)
          · rw [if_pos c22] at H
            have c22b0 : ((t122.size : Int) == (t126.size : Int)) = true := beq_iff_eq.mpr c22
            have c22b1 : ((t122.size : Int) != (t126.size : Int)) = false := bne_eq_false_iff_eq.mpr c22
            have c22b2 : (t122.size == t126.size) = true := by first | simpa using c22 | (simp at c22 ⊢; omega)
            clear c22
            by_cases c23 : ((Op.bytesLess t122.toList t126.toList) == (decide (a0 < a1))) = true
            · rw [if_pos c23] at H
              have c23b0 : ((Op.bytesLess t122.toList t126.toList) == (decide (a0 < a1))) = true := c23
              (try (have c23b1 : decide ((Op.bytesLess t122.toList t126.toList) = (decide (a0 < a1))) = true := by simpa using c23))
              (try (have c23b2 : ((Op.bytesLess t122.toList t126.toList) == (decide (a0 < a1))) = true := by simpa using c23))
              clear c23
              replace H := Option.bind_eq_some_iff.mp H
              obtain ⟨t127, A240, H⟩ := H
              replace H : (some t127) = some r := H
              have A24 := Aside0.mk A240
              clear A240
              obtain rfl := Option.some.inj H
              go_wp2_with (first | (go_at_call 10; (with_reducible refine (wapentakelaw01_awake.calls kj4  t127 _ A24.out).mono ?_); rintro e w25 ⟨rfl, hb⟩; have n0_ := Aside0.mk (below_step (by repeat (first | (with_reducible first | exact HB.out | apply below_alloc | apply pw_below_drewN | apply below_drew1) | exact HB.out)) hb); clear HB; have HB := n0_; clear n0_; (try clear hb); (try clear hb2); (try clear hk); (try clear hi)))
              go_ret
              exact ⟨by first | rfl | (simp [errW_none, errW_some] <;> rfl) | (simp [*, errW_none, errW_some] <;> rfl), by repeat (first | (with_reducible first | exact HB.out | apply below_alloc | apply pw_below_drewN | apply below_drew1) | exact HB.out)⟩
            · rw [if_neg c23] at H
              have c23b0 : ((Op.bytesLess t122.toList t126.toList) == (decide (a0 < a1))) = false := by simpa using c23
              (try (have c23b1 : decide ((Op.bytesLess t122.toList t126.toList) = (decide (a0 < a1))) = false := by simpa using c23))
              (try (have c23b2 : ((Op.bytesLess t122.toList t126.toList) == (decide (a0 < a1))) = false := by simpa using c23))
              (try (have c23b3 : ¬ ((Op.bytesLess t122.toList t126.toList) = (decide (a0 < a1))) := by simpa using c23))
              clear c23
              obtain rfl := Option.some.inj H
              go_wp2
              go_ret
              exact ⟨by first | rfl | (simp [errW_none, errW_some] <;> rfl) | (simp [*, errW_none, errW_some] <;> rfl), by repeat (first | (with_reducible first | exact HB.out | apply below_alloc | apply pw_below_drewN | apply below_drew1) | exact HB.out)⟩
          · rw [if_neg c22] at H
            have c22b0 : ((t122.size : Int) == (t126.size : Int)) = false := beq_eq_false_iff_ne.mpr c22
            have c22b1 : ((t122.size : Int) != (t126.size : Int)) = true := bne_iff_ne.mpr c22
            have c22b2 : (t122.size == t126.size) = false := by first | simpa using c22 | (simp at c22 ⊢; omega)
            replace H := Option.bind_eq_some_iff.mp H
            obtain ⟨t128, A260, H⟩ := H
            replace H : (some t128) = some r := H
            have A26 := Aside0.mk A260
            clear A260
            obtain rfl := Option.some.inj H
            go_wp2_with (first | (go_at_call 10; (with_reducible refine (wapentakelaw01_awake.calls kj4  t128 _ A26.out).mono ?_); rintro e w27 ⟨rfl, hb⟩; have n0_ := Aside0.mk (below_step (by repeat (first | (with_reducible first | exact HB.out | apply below_alloc | apply pw_below_drewN | apply below_drew1) | exact HB.out)) hb); clear HB; have HB := n0_; clear n0_; (try clear hb); (try clear hb2); (try clear hk); (try clear hi)))
            go_ret
            exact ⟨by first | rfl | (simp [errW_none, errW_some] <;> rfl) | (simp [*, errW_none, errW_some] <;> rfl), by repeat (first | (with_reducible first | exact HB.out | apply below_alloc | apply pw_below_drewN | apply below_drew1) | exact HB.out)⟩
        · rw [if_neg c21] at H
          have c21b0 : (a0 == a1) = false := beq_eq_false_iff_ne.mpr c21
          have c21b1 : (a0 != a1) = true := bne_iff_ne.mpr c21
          by_cases c28 : (t122.size : Int) ≤ (t126.size : Int)
          · rw [if_pos c28] at H
            have c28b0 : decide ((t122.size : Int) ≤ (t126.size : Int)) = true := decide_eq_true c28
            have c28b1 : decide (t122.size ≤ t126.size) = true := decide_eq_true (Int.ofNat_le.mp c28)
            clear c28
            by_cases c29 : 0 ≤ (t122.size : Int)
            · rw [if_pos c29] at H
              have c29b0 := eq_true c29
              have c29b1 : decide (0 ≤ (t122.size : Int)) = true := decide_eq_true c29
              clear c29
              have c30b0 := eq_true (of_decide_eq_true (by first | (with_reducible assumption) | assumption) : (t122.size : Int) ≤ (t126.size : Int))
              by_cases c31 : (t126.extract 0 t122.size).toList = t122.toList
              · rw [if_pos c31] at H
                have c31b0 : ((t126.extract 0 t122.size).toList == t122.toList) = true := beq_iff_eq.mpr c31
                have c31b1 : ((t126.extract 0 t122.size).toList != t122.toList) = false := bne_eq_false_iff_eq.mpr c31
                clear c31
                obtain rfl := Option.some.inj H
                go_wp2
                go_ret
                exact ⟨by first | rfl | (simp [errW_none, errW_some] <;> rfl) | (simp [*, errW_none, errW_some] <;> rfl), by repeat (first | (with_reducible first | exact HB.out | apply below_alloc | apply pw_below_drewN | apply below_drew1) | exact HB.out)⟩
              · rw [if_neg c31] at H
                have c31b0 : ((t126.extract 0 t122.size).toList == t122.toList) = false := beq_eq_false_iff_ne.mpr c31
                have c31b1 : ((t126.extract 0 t122.size).toList != t122.toList) = true := bne_iff_ne.mpr c31
                by_cases c32 : (t122.size : Int) = (t126.size : Int)
                · rw [if_pos c32] at H
                  have c32b0 : ((t122.size : Int) == (t126.size : Int)) = true := beq_iff_eq.mpr c32
                  have c32b1 : ((t122.size : Int) != (t126.size : Int)) = false := bne_eq_false_iff_eq.mpr c32
                  have c32b2 : (t122.size == t126.size) = true := by first | simpa using c32 | (simp at c32 ⊢; omega)
                  clear c32
                  by_cases c33 : ((Op.bytesLess t122.toList t126.toList) == (decide (a0 < a1))) = true
                  · rw [if_pos c33] at H
                    have c33b0 : ((Op.bytesLess t122.toList t126.toList) == (decide (a0 < a1))) = true := c33
                    (try (have c33b1 : decide ((Op.bytesLess t122.toList t126.toList) = (decide (a0 < a1))) = true := by simpa using c33))
                    (try (have c33b2 : ((Op.bytesLess t122.toList t126.toList) == (decide (a0 < a1))) = true := by simpa using c33))
                    clear c33
                    replace H := Option.bind_eq_some_iff.mp H
                    obtain ⟨t129, A340, H⟩ := H
                    replace H : (some t129) = some r := H
                    have A34 := Aside0.mk A340
                    clear A340
                    obtain rfl := Option.some.inj H
                    go_wp2_with (first | (go_at_call 10; (with_reducible refine (wapentakelaw01_awake.calls kj4  t129 _ A34.out).mono ?_); rintro e w35 ⟨rfl, hb⟩; have n0_ := Aside0.mk (below_step (by repeat (first | (with_reducible first | exact HB.out | apply below_alloc | apply pw_below_drewN | apply below_drew1) | exact HB.out)) hb); clear HB; have HB := n0_; clear n0_; (try clear hb); (try clear hb2); (try clear hk); (try clear hi)))
                    go_ret
                    exact ⟨by first | rfl | (simp [errW_none, errW_some] <;> rfl) | (simp [*, errW_none, errW_some] <;> rfl), by repeat (first | (with_reducible first | exact HB.out | apply below_alloc | apply pw_below_drewN | apply below_drew1) | exact HB.out)⟩
                  · rw [if_neg c33] at H
                    have c33b0 : ((Op.bytesLess t122.toList t126.toList) == (decide (a0 < a1))) = false := by simpa using c33
                    (try (have c33b1 : decide ((Op.bytesLess t122.toList t126.toList) = (decide (a0 < a1))) = false := by simpa using c33))
                    (try (have c33b2 : ((Op.bytesLess t122.toList t126.toList) == (decide (a0 < a1))) = false := by simpa using c33))
                    (try (have c33b3 : ¬ ((Op.bytesLess t122.toList t126.toList) = (decide (a0 < a1))) := by simpa using c33))
                    clear c33
                    obtain rfl := Option.some.inj H
                    go_wp2
                    go_ret
                    exact ⟨by first | rfl | (simp [errW_none, errW_some] <;> rfl) | (simp [*, errW_none, errW_some] <;> rfl), by repeat (first | (with_reducible first | exact HB.out | apply below_alloc | apply pw_below_drewN | apply below_drew1) | exact HB.out)⟩
                · rw [if_neg c32] at H
                  have c32b0 : ((t122.size : Int) == (t126.size : Int)) = false := beq_eq_false_iff_ne.mpr c32
                  have c32b1 : ((t122.size : Int) != (t126.size : Int)) = true := bne_iff_ne.mpr c32
                  have c32b2 : (t122.size == t126.size) = false := by first | simpa using c32 | (simp at c32 ⊢; omega)
                  replace H := Option.bind_eq_some_iff.mp H
                  obtain ⟨t130, A360, H⟩ := H
                  replace H : (some t130) = some r := H
                  have A36 := Aside0.mk A360
                  clear A360
                  obtain rfl := Option.some.inj H
                  go_wp2_with (first | (go_at_call 10; (with_reducible refine (wapentakelaw01_awake.calls kj4  t130 _ A36.out).mono ?_); rintro e w37 ⟨rfl, hb⟩; have n0_ := Aside0.mk (below_step (by repeat (first | (with_reducible first | exact HB.out | apply below_alloc | apply pw_below_drewN | apply below_drew1) | exact HB.out)) hb); clear HB; have HB := n0_; clear n0_; (try clear hb); (try clear hb2); (try clear hk); (try clear hi)))
                  go_ret
                  exact ⟨by first | rfl | (simp [errW_none, errW_some] <;> rfl) | (simp [*, errW_none, errW_some] <;> rfl), by repeat (first | (with_reducible first | exact HB.out | apply below_alloc | apply pw_below_drewN | apply below_drew1) | exact HB.out)⟩
            · rw [if_neg c29] at H
              exact absurd H (by simp)
          · rw [if_neg c28] at H
            have c28b0 : decide ((t122.size : Int) ≤ (t126.size : Int)) = false := decide_eq_false c28
            have c28b1 : decide (t122.size ≤ t126.size) = false := decide_eq_false (fun h => c28 (Int.ofNat_le.mpr h))
            clear c28
            by_cases c38 : (t122.size : Int) = (t126.size : Int)
            · rw [if_pos c38] at H
              have c38b0 : ((t122.size : Int) == (t126.size : Int)) = true := beq_iff_eq.mpr c38
              have c38b1 : ((t122.size : Int) != (t126.size : Int)) = false := bne_eq_false_iff_eq.mpr c38
              have c38b2 : (t122.size == t126.size) = true := by first | simpa using c38 | (simp at c38 ⊢; omega)
              clear c38
              by_cases c39 : ((Op.bytesLess t122.toList t126.toList) == (decide (a0 < a1))) = true
              · rw [if_pos c39] at H
                have c39b0 : ((Op.bytesLess t122.toList t126.toList) == (decide (a0 < a1))) = true := c39
                (try (have c39b1 : decide ((Op.bytesLess t122.toList t126.toList) = (decide (a0 < a1))) = true := by simpa using c39))
                (try (have c39b2 : ((Op.bytesLess t122.toList t126.toList) == (decide (a0 < a1))) = true := by simpa using c39))
                clear c39
                replace H := Option.bind_eq_some_iff.mp H
                obtain ⟨t131, A400, H⟩ := H
                replace H : (some t131) = some r := H
                have A40 := Aside0.mk A400
                clear A400
                obtain rfl := Option.some.inj H
                go_wp2_with (first | (go_at_call 10; (with_reducible refine (wapentakelaw01_awake.calls kj4  t131 _ A40.out).mono ?_); rintro e w41 ⟨rfl, hb⟩; have n0_ := Aside0.mk (below_step (by repeat (first | (with_reducible first | exact HB.out | apply below_alloc | apply pw_below_drewN | apply below_drew1) | exact HB.out)) hb); clear HB; have HB := n0_; clear n0_; (try clear hb); (try clear hb2); (try clear hk); (try clear hi)))
                go_ret
                exact ⟨by first | rfl | (simp [errW_none, errW_some] <;> rfl) | (simp [*, errW_none, errW_some] <;> rfl), by repeat (first | (with_reducible first | exact HB.out | apply below_alloc | apply pw_below_drewN | apply below_drew1) | exact HB.out)⟩
              · rw [if_neg c39] at H
                have c39b0 : ((Op.bytesLess t122.toList t126.toList) == (decide (a0 < a1))) = false := by simpa using c39
                (try (have c39b1 : decide ((Op.bytesLess t122.toList t126.toList) = (decide (a0 < a1))) = false := by simpa using c39))
                (try (have c39b2 : ((Op.bytesLess t122.toList t126.toList) == (decide (a0 < a1))) = false := by simpa using c39))
                (try (have c39b3 : ¬ ((Op.bytesLess t122.toList t126.toList) = (decide (a0 < a1))) := by simpa using c39))
                clear c39
                obtain rfl := Option.some.inj H
                go_wp2
                go_ret
                exact ⟨by first | rfl | (simp [errW_none, errW_some] <;> rfl) | (simp [*, errW_none, errW_some] <;> rfl), by repeat (first | (with_reducible first | exact HB.out | apply below_alloc | apply pw_below_drewN | apply below_drew1) | exact HB.out)⟩
            · rw [if_neg c38] at H
              have c38b0 : ((t122.size : Int) == (t126.size : Int)) = false := beq_eq_false_iff_ne.mpr c38
              have c38b1 : ((t122.size : Int) != (t126.size : Int)) = true := bne_iff_ne.mpr c38
              have c38b2 : (t122.size == t126.size) = false := by first | simpa using c38 | (simp at c38 ⊢; omega)
              replace H := Option.bind_eq_some_iff.mp H
              obtain ⟨t132, A420, H⟩ := H
              replace H : (some t132) = some r := H
              have A42 := Aside0.mk A420
              clear A420
              obtain rfl := Option.some.inj H
              go_wp2_with (first | (go_at_call 10; (with_reducible refine (wapentakelaw01_awake.calls kj4  t132 _ A42.out).mono ?_); rintro e w43 ⟨rfl, hb⟩; have n0_ := Aside0.mk (below_step (by repeat (first | (with_reducible first | exact HB.out | apply below_alloc | apply pw_below_drewN | apply below_drew1) | exact HB.out)) hb); clear HB; have HB := n0_; clear n0_; (try clear hb); (try clear hb2); (try clear hk); (try clear hi)))
              go_ret
              exact ⟨by first | rfl | (simp [errW_none, errW_some] <;> rfl) | (simp [*, errW_none, errW_some] <;> rfl), by repeat (first | (with_reducible first | exact HB.out | apply below_alloc | apply pw_below_drewN | apply below_drew1) | exact HB.out)⟩

/-- THE ONE PURE STATEMENT of wapentakelaw01_NumApart: yours. -/
def wapentakelaw01_NumApart.Pure : Prop := ∀ (a0 : Int) (a1 : Int), (Lit.int .u64 a0).wf = true → (Lit.int .u64 a1).wf = true → ∃ k, wapentakelaw01_NumApart.f k a0 a1 = some true
theorem wapentakelaw01_NumApart.walk (P : wapentakelaw01_NumApart.Pure) (a0 : Int) (a1 : Int) (w : World) (w0 : (Lit.int .u64 a0).wf = true) (w1 : (Lit.int .u64 a1).wf = true) :
    Calls Try.prog 3 #[.int .u64 a0, .int .u64 a1] w fun e w' => e = .returned (.bool true) ∧ Below w.heap.size w w' := by
  obtain ⟨k, h⟩ := P a0 a1 w0 w1
  refine (wapentakelaw01_NumApart.calls k a0 a1 true w h).mono ?_
  rintro e w' ⟨rfl, hd⟩
  exact ⟨rfl, hd⟩

end Go.Proofs.Ythdjecgiefednaa.P
