-- Written by wip/tools/myprint.sh out of the translation, over the kit's print with a patch. Not trusted: Lean checks it.
import Derived.Test.YtimfgflcflhfcaaPx0
import Derived.Test.YtimfgflcflhfcaaPx3
import Derived.Test.YtimfgflcflhfcaaPx5
import Derived.Test.YtimfgflcflhfcaaPx7
import Derived.Test.YtimfgflcflhfcaaPx8
import Derived.Test.YtimfgflcflhfcaaPx9
namespace Go.Proofs.Ytimfgflcflhfcaa.P
open Go.RowKit Go.Proofs.YtimfgflcflhfcaaW.PrintWords Go.Proofs.YtimfgflcflhfcaaW.PrintLast Go.Proofs.YtimfgflcflhfcaaW.PrintMore Go.Proofs.Ytimfgflcflhfcaa.Num
attribute [local go_sem] max2_int min2_int max_two min_two max_three min_three max_four min_four   -- for this text's walks alone
set_option linter.unusedVariables false
set_option linter.unusedSimpArgs false

/-! ### wapentakelaw04_EntryKnown: function 3 -/
mutual
def wapentakelaw04_EntryKnown.j0 : Nat → Bool → Option (Bool)
  | 0, _ => none
  | k + 1, x12 => if x12 = true then (some false) else ((some (([(⟨0, 0, 0, 0, (⟨0, 0, 0, 0, 0, 0, 0, 0⟩ : S25), (⟨#[]⟩ : ByteArray)⟩ : S27), (⟨0, 1, 1, 0, (⟨0, 0, 0, 0, 0, 0, 0, 0⟩ : S25), (⟨#[]⟩ : ByteArray)⟩ : S27), (⟨1, 0, 1, 0, (⟨0, 0, 0, 0, 0, 0, 0, 0⟩ : S25), (⟨#[]⟩ : ByteArray)⟩ : S27), (⟨1, 1, 6, 0, (⟨0, 0, 0, 0, 0, 0, 0, 0⟩ : S25), (⟨#[]⟩ : ByteArray)⟩ : S27), (⟨1, 1, 2, 0, (⟨0, 0, 0, 0, 0, 0, 0, 0⟩ : S25), (⟨#[32]⟩ : ByteArray)⟩ : S27), (⟨1, 1, 2, 0, (⟨0, 0, 0, 0, 0, 0, 0, 0⟩ : S25), (⟨#[]⟩ : ByteArray)⟩ : S27), (⟨1, 1, 5, 1, (⟨0, 0, 0, 0, 0, 0, 0, 0⟩ : S25), (⟨#[]⟩ : ByteArray)⟩ : S27), (⟨1, 1, 3, 4, (⟨0, 0, 0, 0, 0, 0, 0, 0⟩ : S25), (⟨#[]⟩ : ByteArray)⟩ : S27), (⟨1, 1, 4, 0, (⟨1, 0, 0, 0, 0, 0, 0, 0⟩ : S25), (⟨#[]⟩ : ByteArray)⟩ : S27), (⟨1, 1, 1, 0, (⟨0, 0, 0, 0, 0, 0, 0, 0⟩ : S25), (⟨#[120]⟩ : ByteArray)⟩ : S27)] : List (S27)) : List (S27))).bind fun y206 => (wapentakelaw04_EntryKnown.l0 k y206 (y206.length : Int) 0))
def wapentakelaw04_EntryKnown.l0 : Nat → List (S27) → Int → Int → Option (Bool)
  | 0, _, _, _ => none
  | k + 1, x24, x25, x26 => if x26 < x25 then (if 0 ≤ x26 then (if x26 < (x24.length : Int) then ((entry_Right.f k ((rd_T27 x24 x26).f0) ((rd_T27 x24 x26).f1) ((rd_T27 x24 x26).f2) ((rd_T27 x24 x26).f3) ((rd_T27 x24 x26).f4.f0) ((rd_T27 x24 x26).f4.f1) ((rd_T27 x24 x26).f4.f2) ((rd_T27 x24 x26).f4.f3) ((rd_T27 x24 x26).f4.f4) ((rd_T27 x24 x26).f4.f5) ((rd_T27 x24 x26).f4.f6) ((rd_T27 x24 x26).f4.f7) ((rd_T27 x24 x26).f5)).bind fun t211 => (if t211 = true then (some false) else ((entry_Write.f k ((rd_T27 x24 x26).f0) ((rd_T27 x24 x26).f1) ((rd_T27 x24 x26).f2) ((rd_T27 x24 x26).f3) ((rd_T27 x24 x26).f4.f0) ((rd_T27 x24 x26).f4.f1) ((rd_T27 x24 x26).f4.f2) ((rd_T27 x24 x26).f4.f3) ((rd_T27 x24 x26).f4.f4) ((rd_T27 x24 x26).f4.f5) ((rd_T27 x24 x26).f4.f6) ((rd_T27 x24 x26).f4.f7) ((rd_T27 x24 x26).f5)).bind fun t212 => (if t212.toList = ([] : List UInt8) then (wapentakelaw04_EntryKnown.l0 k x24 x25 (wrap64 (x26 + 1))) else (some false))))) else (none)) else (none)) else ((entry_Read.f k (⟨#[]⟩ : ByteArray)).bind fun bt213 => (if bt213.2.2.2.2.2.2.2.2.2.2.2.2.2 = true then (some false) else ((entry_Majority.f 3).bind fun t228 => (if t228 = 2 then ((entry_Majority.f 31).bind fun t229 => (if t229 = 3 then ((entry_Majority.f 0).bind fun t230 => (if t230 = 1 then ((entry_Majority.f 224).bind fun t231 => (if t231 = 1 then ((entry_Members.f k 0).bind fun t232 => (if (t232.length : Int) = 0 then ((entry_Members.f k 255).bind fun t235 => (if (t235.length : Int) = 5 then ((wapentakelaw04_awake.f k).bind fun t238 => (some t238)) else (some false))) else (some false))) else (some false))) else (some false))) else (some false))) else (some false)))))
end
def wapentakelaw04_EntryKnown.f (k : Nat)  : Option (Bool) := (entry_Write.f k 1 2 1 0 0 0 0 0 0 0 0 0 (⟨#[]⟩ : ByteArray)).bind fun t204 => (if t204.toList = ([1, 1, 2] : List UInt8) then ((entry_Write.f k 128 2 2 0 0 0 0 0 0 0 0 0 (⟨#[7]⟩ : ByteArray)).bind fun t205 => (wapentakelaw04_EntryKnown.j0 k (t205.toList != ([2, 129, 0, 2, 1, 7] : List UInt8)))) else (wapentakelaw04_EntryKnown.j0 k true))
theorem wapentakelaw04_EntryKnown.mono_l : ∀ k, (∀ y0, LeO (wapentakelaw04_EntryKnown.j0 k y0) (wapentakelaw04_EntryKnown.j0 (k + 1) y0)) ∧ (∀ y0 y1 y2, LeO (wapentakelaw04_EntryKnown.l0 k y0 y1 y2) (wapentakelaw04_EntryKnown.l0 (k + 1) y0 y1 y2))
  | 0 => ⟨fun _ r h => by simp [wapentakelaw04_EntryKnown.j0] at h, fun _ _ _ r h => by simp [wapentakelaw04_EntryKnown.l0] at h⟩
  | k + 1 => by
    obtain ⟨ih0, ih1⟩ := wapentakelaw04_EntryKnown.mono_l k
    refine ⟨?_, ?_⟩
    · intro y0
      unfold wapentakelaw04_EntryKnown.j0
      repeat' first
      | (with_reducible exact ih0 _)
      | (with_reducible exact ih1 _ _ _)
      | (with_reducible exact entry_Members.mono _ _)
      | (with_reducible exact entry_Read.mono _ _)
      | (with_reducible exact entry_Right.mono _ _ _ _ _ _ _ _ _ _ _ _ _ _)
      | (with_reducible exact entry_Write.mono _ _ _ _ _ _ _ _ _ _ _ _ _ _)
      | (with_reducible exact wapentakelaw04_awake.mono _)
      | (with_reducible exact LeO.refl _)
      | (with_reducible exact LeO.none _)
      | (with_reducible refine LeO.ite ?_ ?_)
      | (with_reducible refine LeO.bind ?_ (fun _ => ?_))
      | exact ih0 _
      | exact ih1 _ _ _
      | exact entry_Members.mono _ _
      | exact entry_Read.mono _ _
      | exact entry_Right.mono _ _ _ _ _ _ _ _ _ _ _ _ _ _
      | exact entry_Write.mono _ _ _ _ _ _ _ _ _ _ _ _ _ _
      | exact wapentakelaw04_awake.mono _
      | exact LeO.none _
      | refine LeO.ite ?_ ?_
      | refine LeO.bind ?_ (fun _ => ?_)
    · intro y0 y1 y2
      unfold wapentakelaw04_EntryKnown.l0
      repeat' first
      | (with_reducible exact ih0 _)
      | (with_reducible exact ih1 _ _ _)
      | (with_reducible exact entry_Members.mono _ _)
      | (with_reducible exact entry_Read.mono _ _)
      | (with_reducible exact entry_Right.mono _ _ _ _ _ _ _ _ _ _ _ _ _ _)
      | (with_reducible exact entry_Write.mono _ _ _ _ _ _ _ _ _ _ _ _ _ _)
      | (with_reducible exact wapentakelaw04_awake.mono _)
      | (with_reducible exact LeO.refl _)
      | (with_reducible exact LeO.none _)
      | (with_reducible refine LeO.ite ?_ ?_)
      | (with_reducible refine LeO.bind ?_ (fun _ => ?_))
      | exact ih0 _
      | exact ih1 _ _ _
      | exact entry_Members.mono _ _
      | exact entry_Read.mono _ _
      | exact entry_Right.mono _ _ _ _ _ _ _ _ _ _ _ _ _ _
      | exact entry_Write.mono _ _ _ _ _ _ _ _ _ _ _ _ _ _
      | exact wapentakelaw04_awake.mono _
      | exact LeO.none _
      | refine LeO.ite ?_ ?_
      | refine LeO.bind ?_ (fun _ => ?_)
theorem wapentakelaw04_EntryKnown.mono : ∀ k, LeO (wapentakelaw04_EntryKnown.f k ) (wapentakelaw04_EntryKnown.f (k + 1) ) := by
  intro  k
  obtain ⟨ih0, ih1⟩ := wapentakelaw04_EntryKnown.mono_l k
  unfold wapentakelaw04_EntryKnown.f
  repeat' first
      | (with_reducible exact ih0 _)
      | (with_reducible exact ih1 _ _ _)
      | (with_reducible exact entry_Members.mono _ _)
      | (with_reducible exact entry_Read.mono _ _)
      | (with_reducible exact entry_Right.mono _ _ _ _ _ _ _ _ _ _ _ _ _ _)
      | (with_reducible exact entry_Write.mono _ _ _ _ _ _ _ _ _ _ _ _ _ _)
      | (with_reducible exact wapentakelaw04_awake.mono _)
      | (with_reducible exact LeO.refl _)
      | (with_reducible exact LeO.none _)
      | (with_reducible refine LeO.ite ?_ ?_)
      | (with_reducible refine LeO.bind ?_ (fun _ => ?_))
      | exact ih0 _
      | exact ih1 _ _ _
      | exact entry_Members.mono _ _
      | exact entry_Read.mono _ _
      | exact entry_Right.mono _ _ _ _ _ _ _ _ _ _ _ _ _ _
      | exact entry_Write.mono _ _ _ _ _ _ _ _ _ _ _ _ _ _
      | exact wapentakelaw04_awake.mono _
      | exact LeO.none _
      | refine LeO.ite ?_ ?_
      | refine LeO.bind ?_ (fun _ => ?_)
set_option maxHeartbeats 8000000 in
set_option maxRecDepth 100000 in
theorem wapentakelaw04_EntryKnown.calls (k : Nat)  (r : Bool) (w : World) (h : wapentakelaw04_EntryKnown.f k  = some r) (hr_ : r = true) :
    Calls Try.prog 3 #[] w fun e w' => e = .returned (.bool r) ∧ Below w.heap.size w w' := by
  have hu27 := Try.underlying27
  have hu25 := Try.underlying25
  have HB := Aside0.mk (Below.refl w.heap.size w)
  have H : ((entry_Write.f k 1 2 1 0 0 0 0 0 0 0 0 0 (⟨#[]⟩ : ByteArray)).bind fun t204 => (if t204.toList = ([1, 1, 2] : List UInt8) then ((entry_Write.f k 128 2 2 0 0 0 0 0 0 0 0 0 (⟨#[7]⟩ : ByteArray)).bind fun t205 => (wapentakelaw04_EntryKnown.j0 k (t205.toList != ([2, 129, 0, 2, 1, 7] : List UInt8)))) else (wapentakelaw04_EntryKnown.j0 k true))) = some r := h
  clear h
  have HC1 := Aside0.mk H
  clear H
  go_enter Try.func3, Try.ntmps3
  go_upto_region 1 with (fail)
  go_cut [12] (fun v12 wc => ∃ (kq : Nat) (x12_0 : Bool), v12 = .bool x12_0 ∧ Aside0 (wapentakelaw04_EntryKnown.j0 kq x12_0 = some r) ∧ Aside0 (kq ≤ k) ∧ Aside0 (Below w.heap.size w wc))
  case first =>
    have H := HC1.out
    clear HC1
    replace H := Option.bind_eq_some_iff.mp H
    obtain ⟨t204, A20, H⟩ := H
    replace H : (if t204.toList = ([1, 1, 2] : List UInt8) then ((entry_Write.f k 128 2 2 0 0 0 0 0 0 0 0 0 (⟨#[7]⟩ : ByteArray)).bind fun t205 => (wapentakelaw04_EntryKnown.j0 k (t205.toList != ([2, 129, 0, 2, 1, 7] : List UInt8)))) else (wapentakelaw04_EntryKnown.j0 k true)) = some r := H
    have A2 := Aside0.mk A20
    clear A20
    by_cases c3 : t204.toList = ([1, 1, 2] : List UInt8)
    · rw [if_pos c3] at H
      have c3b0 : (t204.toList == ([1, 1, 2] : List UInt8)) = true := beq_iff_eq.mpr c3
      have c3b1 : (t204.toList != ([1, 1, 2] : List UInt8)) = false := bne_eq_false_iff_eq.mpr c3
      clear c3
      (first | rw [c3b0] | (simp only [i64_w, i32_w]; rw [c3b0]) | skip)
      replace H := Option.bind_eq_some_iff.mp H
      obtain ⟨t205, A40, H⟩ := H
      replace H : (wapentakelaw04_EntryKnown.j0 k (t205.toList != ([2, 129, 0, 2, 1, 7] : List UInt8))) = some r := H
      have A4 := Aside0.mk A40
      clear A40
      have H' := Aside0.mk H
      clear H
      go_wp2_with (first | ((with_reducible refine gate_callee (f := 9) rfl ?_); refine goesL_ (some 6) rfl rfl Try.func9 (by kernel_rfl) rfl #[.agg #[.int .u64 1, .int .u64 2, .int .u8 1, .int .u8 0, .int .u8 0, .int .u8 0, .int .u8 0, .int .u8 0, .int .u8 0, .int .u8 0, .int .u8 0, .int .u8 0, .string (⟨#[]⟩ : ByteArray)]] rfl (by (try simp only [List.map_toArray, List.map_cons, List.map_nil]); first | done | rfl | (simp only [List.length_drop, List.length_take]; rfl)) ?_; (with_reducible refine (entry_Write.calls k 1 2 1 0 0 0 0 0 0 0 0 0 (⟨#[]⟩ : ByteArray) t204 _ A2.out).mono ?_); rintro e w5 ⟨rfl, hb⟩; refine ⟨_, rfl, ?_⟩; have n0_ := Aside0.mk (below_step (by repeat (first | (with_reducible first | exact HB.out | apply below_alloc | apply pw_below_drewN | apply below_drew1) | exact HB.out)) hb); clear HB; have HB := n0_; clear n0_; (try clear hb); (try clear hb2); (try clear hk); (try clear hi)) | (go_at_call 9; (with_reducible refine (entry_Write.calls k 128 2 2 0 0 0 0 0 0 0 0 0 (⟨#[7]⟩ : ByteArray) t205 _ A4.out).mono ?_); rintro e w6 ⟨rfl, hb⟩; have n0_ := Aside0.mk (below_step (by repeat (first | (with_reducible first | exact HB.out | apply below_alloc | apply pw_below_drewN | apply below_drew1) | exact HB.out)) hb); clear HB; have HB := n0_; clear n0_; (try clear hb); (try clear hb2); (try clear hk); (try clear hi)))
      go_meet
      case rel => exact ⟨_, ((t205.toList != ([2, 129, 0, 2, 1, 7] : List UInt8))), (by first | (with_reducible rfl) | (simp; done) | (simp [*]; done) | (refine congrArg (Value.int _) ?_; unfold wrap64; omega) | rfl), H', ⟨by first | omega | exact Nat.le_refl _⟩, ⟨by repeat (first | (with_reducible first | exact HB.out | apply below_alloc | apply pw_below_drewN | apply below_drew1) | exact HB.out)⟩⟩
    · rw [if_neg c3] at H
      have c3b0 : (t204.toList == ([1, 1, 2] : List UInt8)) = false := beq_eq_false_iff_ne.mpr c3
      have c3b1 : (t204.toList != ([1, 1, 2] : List UInt8)) = true := bne_iff_ne.mpr c3
      (first | rw [c3b0] | (simp only [i64_w, i32_w]; rw [c3b0]) | skip)
      have H' := Aside0.mk H
      clear H
      go_wp2_with (first | ((with_reducible refine gate_callee (f := 9) rfl ?_); refine goesL_ (some 6) rfl rfl Try.func9 (by kernel_rfl) rfl #[.agg #[.int .u64 1, .int .u64 2, .int .u8 1, .int .u8 0, .int .u8 0, .int .u8 0, .int .u8 0, .int .u8 0, .int .u8 0, .int .u8 0, .int .u8 0, .int .u8 0, .string (⟨#[]⟩ : ByteArray)]] rfl (by (try simp only [List.map_toArray, List.map_cons, List.map_nil]); first | done | rfl | (simp only [List.length_drop, List.length_take]; rfl)) ?_; (with_reducible refine (entry_Write.calls k 1 2 1 0 0 0 0 0 0 0 0 0 (⟨#[]⟩ : ByteArray) t204 _ A2.out).mono ?_); rintro e w7 ⟨rfl, hb⟩; refine ⟨_, rfl, ?_⟩; have n0_ := Aside0.mk (below_step (by repeat (first | (with_reducible first | exact HB.out | apply below_alloc | apply pw_below_drewN | apply below_drew1) | exact HB.out)) hb); clear HB; have HB := n0_; clear n0_; (try clear hb); (try clear hb2); (try clear hk); (try clear hi)))
      go_meet
      case rel => exact ⟨_, (true), (by first | (with_reducible rfl) | (simp; done) | (simp [*]; done) | (refine congrArg (Value.int _) ?_; unfold wrap64; omega) | rfl), H', ⟨by first | omega | exact Nat.le_refl _⟩, ⟨by repeat (first | (with_reducible first | exact HB.out | apply below_alloc | apply pw_below_drewN | apply below_drew1) | exact HB.out)⟩⟩
  case rest =>
    clear HC1
    try clear p2
    try clear c3
    try clear c3b0
    try clear c3b1
    try clear p6
    obtain ⟨kq, x12_0, rfl, HA, HJ0, HB⟩ := hcut
    cases kq with
    | zero => exact absurd HA.out (by simp [wapentakelaw04_EntryKnown.j0])
    | succ kj0 =>
      have H := HA.out
      clear HA
      simp only [wapentakelaw04_EntryKnown.j0] at H
      by_cases c8 : x12_0 = true
      · subst c8
        have H1 : (some false) = some r := by rw [if_pos rfl] at H; exact H
        clear H
        have H := H1
        clear H1
        exact absurd (Option.some.inj H) (by rw [hr_]; decide)
      · replace c8 := Bool.eq_false_iff.mpr c8
        subst c8
        have H1 : ((some (([(⟨0, 0, 0, 0, (⟨0, 0, 0, 0, 0, 0, 0, 0⟩ : S25), (⟨#[]⟩ : ByteArray)⟩ : S27), (⟨0, 1, 1, 0, (⟨0, 0, 0, 0, 0, 0, 0, 0⟩ : S25), (⟨#[]⟩ : ByteArray)⟩ : S27), (⟨1, 0, 1, 0, (⟨0, 0, 0, 0, 0, 0, 0, 0⟩ : S25), (⟨#[]⟩ : ByteArray)⟩ : S27), (⟨1, 1, 6, 0, (⟨0, 0, 0, 0, 0, 0, 0, 0⟩ : S25), (⟨#[]⟩ : ByteArray)⟩ : S27), (⟨1, 1, 2, 0, (⟨0, 0, 0, 0, 0, 0, 0, 0⟩ : S25), (⟨#[32]⟩ : ByteArray)⟩ : S27), (⟨1, 1, 2, 0, (⟨0, 0, 0, 0, 0, 0, 0, 0⟩ : S25), (⟨#[]⟩ : ByteArray)⟩ : S27), (⟨1, 1, 5, 1, (⟨0, 0, 0, 0, 0, 0, 0, 0⟩ : S25), (⟨#[]⟩ : ByteArray)⟩ : S27), (⟨1, 1, 3, 4, (⟨0, 0, 0, 0, 0, 0, 0, 0⟩ : S25), (⟨#[]⟩ : ByteArray)⟩ : S27), (⟨1, 1, 4, 0, (⟨1, 0, 0, 0, 0, 0, 0, 0⟩ : S25), (⟨#[]⟩ : ByteArray)⟩ : S27), (⟨1, 1, 1, 0, (⟨0, 0, 0, 0, 0, 0, 0, 0⟩ : S25), (⟨#[120]⟩ : ByteArray)⟩ : S27)] : List (S27)) : List (S27))).bind fun y206 => (wapentakelaw04_EntryKnown.l0 kj0 y206 (y206.length : Int) 0)) = some r := by rw [if_neg (show ¬ (false = true) by decide)] at H; exact H
        clear H
        have H := H1
        clear H1
        obtain ⟨y206, hy206⟩ : ∃ y_ : List (S27), y_ = (([(⟨0, 0, 0, 0, (⟨0, 0, 0, 0, 0, 0, 0, 0⟩ : S25), (⟨#[]⟩ : ByteArray)⟩ : S27), (⟨0, 1, 1, 0, (⟨0, 0, 0, 0, 0, 0, 0, 0⟩ : S25), (⟨#[]⟩ : ByteArray)⟩ : S27), (⟨1, 0, 1, 0, (⟨0, 0, 0, 0, 0, 0, 0, 0⟩ : S25), (⟨#[]⟩ : ByteArray)⟩ : S27), (⟨1, 1, 6, 0, (⟨0, 0, 0, 0, 0, 0, 0, 0⟩ : S25), (⟨#[]⟩ : ByteArray)⟩ : S27), (⟨1, 1, 2, 0, (⟨0, 0, 0, 0, 0, 0, 0, 0⟩ : S25), (⟨#[32]⟩ : ByteArray)⟩ : S27), (⟨1, 1, 2, 0, (⟨0, 0, 0, 0, 0, 0, 0, 0⟩ : S25), (⟨#[]⟩ : ByteArray)⟩ : S27), (⟨1, 1, 5, 1, (⟨0, 0, 0, 0, 0, 0, 0, 0⟩ : S25), (⟨#[]⟩ : ByteArray)⟩ : S27), (⟨1, 1, 3, 4, (⟨0, 0, 0, 0, 0, 0, 0, 0⟩ : S25), (⟨#[]⟩ : ByteArray)⟩ : S27), (⟨1, 1, 4, 0, (⟨1, 0, 0, 0, 0, 0, 0, 0⟩ : S25), (⟨#[]⟩ : ByteArray)⟩ : S27), (⟨1, 1, 1, 0, (⟨0, 0, 0, 0, 0, 0, 0, 0⟩ : S25), (⟨#[120]⟩ : ByteArray)⟩ : S27)] : List (S27))) := ⟨_, rfl⟩
        replace H : (wapentakelaw04_EntryKnown.l0 kj0 y206 (y206.length : Int) 0) = some r := by first | (rw [hy206]; with_reducible exact H) | (have H2_ := (Option.bind_some _ _).symm.trans H; rw [hy206]; with_reducible exact H2_) | (have H2_ := (Option.bind_some _ _).symm.trans H; with_reducible exact H2_) | with_reducible exact H | (rw [hy206]; exact H) | exact H
        have Ny206 := Aside0.mk hy206
        clear hy206
        have H' := Aside0.mk H
        clear H
        go_wp2_with (first | ((with_reducible refine gate_dst (N := 24) rfl ?_); (try (refine gate_guard (by rfl) ?_; dsimp only)); refine Kd.R_lit k27 _ 27 ?hg (N := 24) ?hd (xs := ([(⟨0, 0, 0, 0, (⟨0, 0, 0, 0, 0, 0, 0, 0⟩ : S25), (⟨#[]⟩ : ByteArray)⟩ : S27), (⟨0, 1, 1, 0, (⟨0, 0, 0, 0, 0, 0, 0, 0⟩ : S25), (⟨#[]⟩ : ByteArray)⟩ : S27), (⟨1, 0, 1, 0, (⟨0, 0, 0, 0, 0, 0, 0, 0⟩ : S25), (⟨#[]⟩ : ByteArray)⟩ : S27), (⟨1, 1, 6, 0, (⟨0, 0, 0, 0, 0, 0, 0, 0⟩ : S25), (⟨#[]⟩ : ByteArray)⟩ : S27), (⟨1, 1, 2, 0, (⟨0, 0, 0, 0, 0, 0, 0, 0⟩ : S25), (⟨#[32]⟩ : ByteArray)⟩ : S27), (⟨1, 1, 2, 0, (⟨0, 0, 0, 0, 0, 0, 0, 0⟩ : S25), (⟨#[]⟩ : ByteArray)⟩ : S27), (⟨1, 1, 5, 1, (⟨0, 0, 0, 0, 0, 0, 0, 0⟩ : S25), (⟨#[]⟩ : ByteArray)⟩ : S27), (⟨1, 1, 3, 4, (⟨0, 0, 0, 0, 0, 0, 0, 0⟩ : S25), (⟨#[]⟩ : ByteArray)⟩ : S27), (⟨1, 1, 4, 0, (⟨1, 0, 0, 0, 0, 0, 0, 0⟩ : S25), (⟨#[]⟩ : ByteArray)⟩ : S27), (⟨1, 1, 1, 0, (⟨0, 0, 0, 0, 0, 0, 0, 0⟩ : S25), (⟨#[120]⟩ : ByteArray)⟩ : S27)] : List (S27))) (inner := [.int .u64 0, .int .u64 0, .int .u8 0, .int .u8 0, .int .u8 0, .int .u8 0, .int .u8 0, .int .u8 0, .int .u8 0, .int .u8 0, .int .u8 0, .int .u8 0, .string (⟨#[]⟩ : ByteArray), .int .u64 0, .int .u64 1, .int .u8 1, .int .u8 0, .int .u8 0, .int .u8 0, .int .u8 0, .int .u8 0, .int .u8 0, .int .u8 0, .int .u8 0, .int .u8 0, .string (⟨#[]⟩ : ByteArray), .int .u64 1, .int .u64 0, .int .u8 1, .int .u8 0, .int .u8 0, .int .u8 0, .int .u8 0, .int .u8 0, .int .u8 0, .int .u8 0, .int .u8 0, .int .u8 0, .string (⟨#[]⟩ : ByteArray), .int .u64 1, .int .u64 1, .int .u8 6, .int .u8 0, .int .u8 0, .int .u8 0, .int .u8 0, .int .u8 0, .int .u8 0, .int .u8 0, .int .u8 0, .int .u8 0, .string (⟨#[]⟩ : ByteArray), .int .u64 1, .int .u64 1, .int .u8 2, .int .u8 0, .int .u8 0, .int .u8 0, .int .u8 0, .int .u8 0, .int .u8 0, .int .u8 0, .int .u8 0, .int .u8 0, .string (⟨#[32]⟩ : ByteArray), .int .u64 1, .int .u64 1, .int .u8 2, .int .u8 0, .int .u8 0, .int .u8 0, .int .u8 0, .int .u8 0, .int .u8 0, .int .u8 0, .int .u8 0, .int .u8 0, .string (⟨#[]⟩ : ByteArray), .int .u64 1, .int .u64 1, .int .u8 5, .int .u8 1, .int .u8 0, .int .u8 0, .int .u8 0, .int .u8 0, .int .u8 0, .int .u8 0, .int .u8 0, .int .u8 0, .string (⟨#[]⟩ : ByteArray), .int .u64 1, .int .u64 1, .int .u8 3, .int .u8 4, .int .u8 0, .int .u8 0, .int .u8 0, .int .u8 0, .int .u8 0, .int .u8 0, .int .u8 0, .int .u8 0, .string (⟨#[]⟩ : ByteArray), .int .u64 1, .int .u64 1, .int .u8 4, .int .u8 0, .int .u8 1, .int .u8 0, .int .u8 0, .int .u8 0, .int .u8 0, .int .u8 0, .int .u8 0, .int .u8 0, .string (⟨#[]⟩ : ByteArray), .int .u64 1, .int .u64 1, .int .u8 1, .int .u8 0, .int .u8 0, .int .u8 0, .int .u8 0, .int .u8 0, .int .u8 0, .int .u8 0, .int .u8 0, .int .u8 0, .string (⟨#[120]⟩ : ByteArray)]) (ok := fun _ => True) (okp := fun _ => True) ?hr ?hp (fun _ hk => hk) trivial (Below.refl _ _) (Nat.le_refl _) (by simp) ?_; (case hd => rfl); (case hg => rfl); (case hr => first | (go_simp; done) | (go_simp; rfl)); (case hp => exact (Reps.front (show Kd.M k27 _ _ _ (⟨0, 0, 0, 0, (⟨0, 0, 0, 0, 0, 0, 0, 0⟩ : S25), (⟨#[]⟩ : ByteArray)⟩ : S27) [.int .u64 0, .int .u64 0, .int .u8 0, .int .u8 0, .int .u8 0, .int .u8 0, .int .u8 0, .int .u8 0, .int .u8 0, .int .u8 0, .int .u8 0, .int .u8 0, .string (⟨#[]⟩ : ByteArray)] from (k27_mkM _ _ _ (⟨0, 0, 0, 0, (⟨0, 0, 0, 0, 0, 0, 0, 0⟩ : S25), (⟨#[]⟩ : ByteArray)⟩ : S27) )) rfl (Reps.front (show Kd.M k27 _ _ _ (⟨0, 1, 1, 0, (⟨0, 0, 0, 0, 0, 0, 0, 0⟩ : S25), (⟨#[]⟩ : ByteArray)⟩ : S27) [.int .u64 0, .int .u64 1, .int .u8 1, .int .u8 0, .int .u8 0, .int .u8 0, .int .u8 0, .int .u8 0, .int .u8 0, .int .u8 0, .int .u8 0, .int .u8 0, .string (⟨#[]⟩ : ByteArray)] from (k27_mkM _ _ _ (⟨0, 1, 1, 0, (⟨0, 0, 0, 0, 0, 0, 0, 0⟩ : S25), (⟨#[]⟩ : ByteArray)⟩ : S27) )) rfl (Reps.front (show Kd.M k27 _ _ _ (⟨1, 0, 1, 0, (⟨0, 0, 0, 0, 0, 0, 0, 0⟩ : S25), (⟨#[]⟩ : ByteArray)⟩ : S27) [.int .u64 1, .int .u64 0, .int .u8 1, .int .u8 0, .int .u8 0, .int .u8 0, .int .u8 0, .int .u8 0, .int .u8 0, .int .u8 0, .int .u8 0, .int .u8 0, .string (⟨#[]⟩ : ByteArray)] from (k27_mkM _ _ _ (⟨1, 0, 1, 0, (⟨0, 0, 0, 0, 0, 0, 0, 0⟩ : S25), (⟨#[]⟩ : ByteArray)⟩ : S27) )) rfl (Reps.front (show Kd.M k27 _ _ _ (⟨1, 1, 6, 0, (⟨0, 0, 0, 0, 0, 0, 0, 0⟩ : S25), (⟨#[]⟩ : ByteArray)⟩ : S27) [.int .u64 1, .int .u64 1, .int .u8 6, .int .u8 0, .int .u8 0, .int .u8 0, .int .u8 0, .int .u8 0, .int .u8 0, .int .u8 0, .int .u8 0, .int .u8 0, .string (⟨#[]⟩ : ByteArray)] from (k27_mkM _ _ _ (⟨1, 1, 6, 0, (⟨0, 0, 0, 0, 0, 0, 0, 0⟩ : S25), (⟨#[]⟩ : ByteArray)⟩ : S27) )) rfl (Reps.front (show Kd.M k27 _ _ _ (⟨1, 1, 2, 0, (⟨0, 0, 0, 0, 0, 0, 0, 0⟩ : S25), (⟨#[32]⟩ : ByteArray)⟩ : S27) [.int .u64 1, .int .u64 1, .int .u8 2, .int .u8 0, .int .u8 0, .int .u8 0, .int .u8 0, .int .u8 0, .int .u8 0, .int .u8 0, .int .u8 0, .int .u8 0, .string (⟨#[32]⟩ : ByteArray)] from (k27_mkM _ _ _ (⟨1, 1, 2, 0, (⟨0, 0, 0, 0, 0, 0, 0, 0⟩ : S25), (⟨#[32]⟩ : ByteArray)⟩ : S27) )) rfl (Reps.front (show Kd.M k27 _ _ _ (⟨1, 1, 2, 0, (⟨0, 0, 0, 0, 0, 0, 0, 0⟩ : S25), (⟨#[]⟩ : ByteArray)⟩ : S27) [.int .u64 1, .int .u64 1, .int .u8 2, .int .u8 0, .int .u8 0, .int .u8 0, .int .u8 0, .int .u8 0, .int .u8 0, .int .u8 0, .int .u8 0, .int .u8 0, .string (⟨#[]⟩ : ByteArray)] from (k27_mkM _ _ _ (⟨1, 1, 2, 0, (⟨0, 0, 0, 0, 0, 0, 0, 0⟩ : S25), (⟨#[]⟩ : ByteArray)⟩ : S27) )) rfl (Reps.front (show Kd.M k27 _ _ _ (⟨1, 1, 5, 1, (⟨0, 0, 0, 0, 0, 0, 0, 0⟩ : S25), (⟨#[]⟩ : ByteArray)⟩ : S27) [.int .u64 1, .int .u64 1, .int .u8 5, .int .u8 1, .int .u8 0, .int .u8 0, .int .u8 0, .int .u8 0, .int .u8 0, .int .u8 0, .int .u8 0, .int .u8 0, .string (⟨#[]⟩ : ByteArray)] from (k27_mkM _ _ _ (⟨1, 1, 5, 1, (⟨0, 0, 0, 0, 0, 0, 0, 0⟩ : S25), (⟨#[]⟩ : ByteArray)⟩ : S27) )) rfl (Reps.front (show Kd.M k27 _ _ _ (⟨1, 1, 3, 4, (⟨0, 0, 0, 0, 0, 0, 0, 0⟩ : S25), (⟨#[]⟩ : ByteArray)⟩ : S27) [.int .u64 1, .int .u64 1, .int .u8 3, .int .u8 4, .int .u8 0, .int .u8 0, .int .u8 0, .int .u8 0, .int .u8 0, .int .u8 0, .int .u8 0, .int .u8 0, .string (⟨#[]⟩ : ByteArray)] from (k27_mkM _ _ _ (⟨1, 1, 3, 4, (⟨0, 0, 0, 0, 0, 0, 0, 0⟩ : S25), (⟨#[]⟩ : ByteArray)⟩ : S27) )) rfl (Reps.front (show Kd.M k27 _ _ _ (⟨1, 1, 4, 0, (⟨1, 0, 0, 0, 0, 0, 0, 0⟩ : S25), (⟨#[]⟩ : ByteArray)⟩ : S27) [.int .u64 1, .int .u64 1, .int .u8 4, .int .u8 0, .int .u8 1, .int .u8 0, .int .u8 0, .int .u8 0, .int .u8 0, .int .u8 0, .int .u8 0, .int .u8 0, .string (⟨#[]⟩ : ByteArray)] from (k27_mkM _ _ _ (⟨1, 1, 4, 0, (⟨1, 0, 0, 0, 0, 0, 0, 0⟩ : S25), (⟨#[]⟩ : ByteArray)⟩ : S27) )) rfl (Reps.front (show Kd.M k27 _ _ _ (⟨1, 1, 1, 0, (⟨0, 0, 0, 0, 0, 0, 0, 0⟩ : S25), (⟨#[120]⟩ : ByteArray)⟩ : S27) [.int .u64 1, .int .u64 1, .int .u8 1, .int .u8 0, .int .u8 0, .int .u8 0, .int .u8 0, .int .u8 0, .int .u8 0, .int .u8 0, .int .u8 0, .int .u8 0, .string (⟨#[120]⟩ : ByteArray)] from (k27_mkM _ _ _ (⟨1, 1, 1, 0, (⟨0, 0, 0, 0, 0, 0, 0, 0⟩ : S25), (⟨#[120]⟩ : ByteArray)⟩ : S27) )) rfl (Reps.none _ _) rfl) rfl) rfl) rfl) rfl) rfl) rfl) rfl) rfl) rfl)); intro v207 w9 ho10 hb hg_ hnew_; clear hg_ hnew_; (first | rw [← Ny206.out] at ho10 | (simp only [Int.reduceToNat] at ho10; rw [← Ny206.out] at ho10)); have n0_ := Aside0.mk (Kd.R_lower ho10 (below_size (by repeat (first | (with_reducible first | exact HB.out | apply below_alloc | apply pw_below_drewN | apply below_drew1) | exact HB.out)))); have n1_ := Aside0.mk (below_step (by repeat (first | (with_reducible first | exact HB.out | apply below_alloc | apply pw_below_drewN | apply below_drew1) | exact HB.out)) hb); clear HB; have HO208 := n0_; have HB := n1_; clear n0_ n1_; clear hb ho10; obtain ⟨Ao11, co11, eo11⟩ := Kd.R_slice HO208.out; subst eo11))
        go_loopg [26] kj0 (fun kq v26 w' => ∃ (x26_2 : Int), v26 = .int .i64 x26_2 ∧ Aside0 (wapentakelaw04_EntryKnown.l0 kq y206 (y206.length : Int) x26_2 = some r) ∧ Aside0 (kq ≤ kj0) ∧ Aside0 (Kd.R k27 27 w' w.heap.size (fun _ => True) (.slice Ao11 y206.length co11) y206) ∧ Aside0 (Below w.heap.size w w'))
        case atStart => exact ⟨(0), (by first | (with_reducible rfl) | (simp; done) | (simp [*]; done) | (refine congrArg (Value.int _) ?_; unfold wrap64; omega) | rfl), H', ⟨Nat.le_refl _⟩, ⟨by (with_reducible repeat (first | apply Kd.R_alloc | apply Kd.R_drewN | apply Kd.R_drew)); exact HO208.out⟩, ⟨by repeat (first | (with_reducible first | exact HB.out | apply below_alloc | apply pw_below_drewN | apply below_drew1) | exact HB.out)⟩⟩
        case round =>
          clear H'
          try clear p2
          try clear c3
          try clear c3b0
          try clear c3b1
          try clear p6
          try clear c8
          try clear c9
          try clear p2
          try clear p6
          obtain ⟨x26_2, rfl, HA, HK2, HO_24, HB⟩ := hrel
          cases gk with
          | zero => exact absurd HA.out (by simp [wapentakelaw04_EntryKnown.l0])
          | succ k2 =>
            have H := HA.out
            clear HA
            simp only [wapentakelaw04_EntryKnown.l0] at H
            by_cases c12 : x26_2 < (y206.length : Int)
            · rw [if_pos c12] at H
              have c12b0 : decide (x26_2 < (y206.length : Int)) = true := decide_eq_true c12
              clear c12
              by_cases c13 : 0 ≤ x26_2
              · rw [if_pos c13] at H
                have c13b0 : decide (0 ≤ x26_2) = true := decide_eq_true c13
                clear c13
                by_cases c14 : x26_2 < (y206.length : Int)
                · rw [if_pos c14] at H
                  have c14b0 : decide (x26_2 < (y206.length : Int)) = true := decide_eq_true c14
                  clear c14
                  replace H := Option.bind_eq_some_iff.mp H
                  obtain ⟨t211, A150, H⟩ := H
                  replace H : (if t211 = true then (some false) else ((entry_Write.f k2 ((rd_T27 y206 x26_2).f0) ((rd_T27 y206 x26_2).f1) ((rd_T27 y206 x26_2).f2) ((rd_T27 y206 x26_2).f3) ((rd_T27 y206 x26_2).f4.f0) ((rd_T27 y206 x26_2).f4.f1) ((rd_T27 y206 x26_2).f4.f2) ((rd_T27 y206 x26_2).f4.f3) ((rd_T27 y206 x26_2).f4.f4) ((rd_T27 y206 x26_2).f4.f5) ((rd_T27 y206 x26_2).f4.f6) ((rd_T27 y206 x26_2).f4.f7) ((rd_T27 y206 x26_2).f5)).bind fun t212 => (if t212.toList = ([] : List UInt8) then (wapentakelaw04_EntryKnown.l0 k2 y206 (y206.length : Int) (wrap64 (x26_2 + 1))) else (some false)))) = some r := H
                  have A15 := Aside0.mk A150
                  clear A150
                  by_cases c16 : t211 = true
                  · subst c16
                    have H1 : (some false) = some r := by rw [if_pos rfl] at H; exact H
                    clear H
                    have H := H1
                    clear H1
                    exact absurd (Option.some.inj H) (by rw [hr_]; decide)
                  · replace c16 := Bool.eq_false_iff.mpr c16
                    subst c16
                    have H1 : ((entry_Write.f k2 ((rd_T27 y206 x26_2).f0) ((rd_T27 y206 x26_2).f1) ((rd_T27 y206 x26_2).f2) ((rd_T27 y206 x26_2).f3) ((rd_T27 y206 x26_2).f4.f0) ((rd_T27 y206 x26_2).f4.f1) ((rd_T27 y206 x26_2).f4.f2) ((rd_T27 y206 x26_2).f4.f3) ((rd_T27 y206 x26_2).f4.f4) ((rd_T27 y206 x26_2).f4.f5) ((rd_T27 y206 x26_2).f4.f6) ((rd_T27 y206 x26_2).f4.f7) ((rd_T27 y206 x26_2).f5)).bind fun t212 => (if t212.toList = ([] : List UInt8) then (wapentakelaw04_EntryKnown.l0 k2 y206 (y206.length : Int) (wrap64 (x26_2 + 1))) else (some false))) = some r := by rw [if_neg (show ¬ (false = true) by decide)] at H; exact H
                    clear H
                    have H := H1
                    clear H1
                    replace H := Option.bind_eq_some_iff.mp H
                    obtain ⟨t212, A170, H⟩ := H
                    replace H : (if t212.toList = ([] : List UInt8) then (wapentakelaw04_EntryKnown.l0 k2 y206 (y206.length : Int) (wrap64 (x26_2 + 1))) else (some false)) = some r := H
                    have A17 := Aside0.mk A170
                    clear A170
                    by_cases c18 : t212.toList = ([] : List UInt8)
                    · rw [if_pos c18] at H
                      have c18b0 : (t212.toList == ([] : List UInt8)) = true := beq_iff_eq.mpr c18
                      have c18b1 : (t212.toList != ([] : List UInt8)) = false := bne_eq_false_iff_eq.mpr c18
                      clear c18
                      have H' := Aside0.mk H
                      clear H
                      have p209 : 0 ≤ (x26_2 : Int) := of_decide_eq_true (by first | (with_reducible assumption) | assumption)
                      have q209 : x26_2 < (y206.length : Int) := of_decide_eq_true (by first | (with_reducible assumption) | assumption)
                      obtain ⟨ad209, e209, hx209_0, hx209_1, hx209_2, hx209_3, hx209_4, hx209_5, hx209_6, hx209_7, hx209_8, hx209_9, hx209_10, hx209_11, hx209_12⟩ := at_T27 (Kd.R_reads' HO_24.out).2.2 x26_2 p209 q209
                      cases e209
                      replace p209 := eq_true p209
                      replace q209 := eq_true q209
                      go_wp2_with (first | ((with_reducible refine gate_dst (N := 2) rfl ?_); (try (refine gate_guard (by rfl) ?_; dsimp only)); refine box_event ?hg (N := 2) ?hd (cs := #[.int .u64 0, .int .u64 0, .int .u8 0, .int .u8 0, .int .u8 0, .int .u8 0, .int .u8 0, .int .u8 0, .int .u8 0, .int .u8 0, .int .u8 0, .int .u8 0, .string (⟨#[]⟩ : ByteArray)]) (t := 27) ?hr ?_; (case hd => rfl); (case hg => rfl); (case hr => first | (go_simp; done) | (go_simp; rfl)); intro gb210 hg w19 hbox hb; have n0_ := Aside0.mk (Kd.R_below (Kd.R_elderB (by (with_reducible repeat (first | apply Kd.R_alloc | apply Kd.R_drewN | apply Kd.R_drew)); exact HO_24.out) gb210 (Nat.le_of_eq hg.symm)) hb); have n1_ := Aside0.mk (below_step (by repeat (first | (with_reducible first | exact HB.out | apply below_alloc | apply pw_below_drewN | apply below_drew1) | exact HB.out)) hb); have n2_ := Aside0.mk (hbox); have n3_ := Aside0.mk ((by rw [hg]; exact (below_size (by repeat (first | (with_reducible first | exact HB.out | apply below_alloc | apply pw_below_drewN | apply below_drew1) | exact HB.out))) : w.heap.size ≤ gb210)); have n4_ := Aside0.mk ((by rw [hg]; exact (below_size (by repeat (first | (with_reducible first | exact HB.out | apply below_alloc | apply pw_below_drewN | apply below_drew1) | exact HB.out))) : w.heap.size ≤ gb210)); clear HO_24; clear HB; have HO_24 := n0_; have HB := n1_; have BK210 := n2_; have GW210 := n3_; have GE210 := n4_; clear n0_ n1_ n2_ n3_ n4_; clear hb hbox hg; have hcz20_0 : w19.cell? ⟨gb210, 0, none⟩ = some (.int .u64 0) := (blk_cell BK210.out 0).trans rfl; have hcz20_1 : w19.cell? ⟨gb210, 1, none⟩ = some (.int .u64 0) := (blk_cell BK210.out 1).trans rfl; have hcz20_2 : w19.cell? ⟨gb210, 2, none⟩ = some (.int .u8 0) := (blk_cell BK210.out 2).trans rfl; have hcz20_3 : w19.cell? ⟨gb210, 3, none⟩ = some (.int .u8 0) := (blk_cell BK210.out 3).trans rfl; have hcz20_4 : w19.cell? ⟨gb210, 4, none⟩ = some (.int .u8 0) := (blk_cell BK210.out 4).trans rfl; have hcz20_5 : w19.cell? ⟨gb210, 5, none⟩ = some (.int .u8 0) := (blk_cell BK210.out 5).trans rfl; have hcz20_6 : w19.cell? ⟨gb210, 6, none⟩ = some (.int .u8 0) := (blk_cell BK210.out 6).trans rfl; have hcz20_7 : w19.cell? ⟨gb210, 7, none⟩ = some (.int .u8 0) := (blk_cell BK210.out 7).trans rfl; have hcz20_8 : w19.cell? ⟨gb210, 8, none⟩ = some (.int .u8 0) := (blk_cell BK210.out 8).trans rfl; have hcz20_9 : w19.cell? ⟨gb210, 9, none⟩ = some (.int .u8 0) := (blk_cell BK210.out 9).trans rfl; have hcz20_10 : w19.cell? ⟨gb210, 10, none⟩ = some (.int .u8 0) := (blk_cell BK210.out 10).trans rfl; have hcz20_11 : w19.cell? ⟨gb210, 11, none⟩ = some (.int .u8 0) := (blk_cell BK210.out 11).trans rfl; have hcz20_12 : w19.cell? ⟨gb210, 12, none⟩ = some (.string (⟨#[]⟩ : ByteArray)) := (blk_cell BK210.out 12).trans rfl; have hfz20_0 := blk_frozen BK210.out 0; have hfz20_1 := blk_frozen BK210.out 1; have hfz20_2 := blk_frozen BK210.out 2; have hfz20_3 := blk_frozen BK210.out 3; have hfz20_4 := blk_frozen BK210.out 4; have hfz20_5 := blk_frozen BK210.out 5; have hfz20_6 := blk_frozen BK210.out 6; have hfz20_7 := blk_frozen BK210.out 7; have hfz20_8 := blk_frozen BK210.out 8; have hfz20_9 := blk_frozen BK210.out 9; have hfz20_10 := blk_frozen BK210.out 10; have hfz20_11 := blk_frozen BK210.out 11; have hfz20_12 := blk_frozen BK210.out 12) | ((with_reducible refine gate_callee (f := 10) rfl ?_); refine goesL_ (some 31) rfl rfl Try.func10 (by kernel_rfl) rfl #[.agg #[.int .u64 ((rd_T27 y206 x26_2).f0), .int .u64 ((rd_T27 y206 x26_2).f1), .int .u8 ((rd_T27 y206 x26_2).f2), .int .u8 ((rd_T27 y206 x26_2).f3), .int .u8 ((rd_T27 y206 x26_2).f4.f0), .int .u8 ((rd_T27 y206 x26_2).f4.f1), .int .u8 ((rd_T27 y206 x26_2).f4.f2), .int .u8 ((rd_T27 y206 x26_2).f4.f3), .int .u8 ((rd_T27 y206 x26_2).f4.f4), .int .u8 ((rd_T27 y206 x26_2).f4.f5), .int .u8 ((rd_T27 y206 x26_2).f4.f6), .int .u8 ((rd_T27 y206 x26_2).f4.f7), .string ((rd_T27 y206 x26_2).f5)]] rfl (by (try simp only [List.map_toArray, List.map_cons, List.map_nil]); first | done | rfl | (simp only [List.length_drop, List.length_take]; rfl)) ?_; (with_reducible refine (entry_Right.calls k2 ((rd_T27 y206 x26_2).f0) ((rd_T27 y206 x26_2).f1) ((rd_T27 y206 x26_2).f2) ((rd_T27 y206 x26_2).f3) ((rd_T27 y206 x26_2).f4.f0) ((rd_T27 y206 x26_2).f4.f1) ((rd_T27 y206 x26_2).f4.f2) ((rd_T27 y206 x26_2).f4.f3) ((rd_T27 y206 x26_2).f4.f4) ((rd_T27 y206 x26_2).f4.f5) ((rd_T27 y206 x26_2).f4.f6) ((rd_T27 y206 x26_2).f4.f7) ((rd_T27 y206 x26_2).f5) false _ A15.out).mono ?_); rintro e w21 ⟨rfl, hb⟩; refine ⟨_, rfl, ?_⟩; have n0_ := Aside0.mk (Kd.R_below (by (with_reducible repeat (first | apply Kd.R_alloc | apply Kd.R_drewN | apply Kd.R_drew)); exact (Kd.R_mono (Kd.R_far (p := ⟨gb210, 12, none⟩) (Kd.R_far (p := ⟨gb210, 11, none⟩) (Kd.R_far (p := ⟨gb210, 10, none⟩) (Kd.R_far (p := ⟨gb210, 9, none⟩) (Kd.R_far (p := ⟨gb210, 8, none⟩) (Kd.R_far (p := ⟨gb210, 7, none⟩) (Kd.R_far (p := ⟨gb210, 6, none⟩) (Kd.R_far (p := ⟨gb210, 5, none⟩) (Kd.R_far (p := ⟨gb210, 4, none⟩) (Kd.R_far (p := ⟨gb210, 3, none⟩) (Kd.R_far (p := ⟨gb210, 2, none⟩) (Kd.R_far (p := ⟨gb210, 1, none⟩) (Kd.R_far (p := ⟨gb210, 0, none⟩) (Kd.R_mono HO_24.out (fun k_ hk => (⟨hk, hk.2⟩ : _ ∧ k_ ≠ gb210))) (fun _ hk => hk.2) (.int .u64 ((rd_T27 y206 x26_2).f0))) (fun _ hk => hk.2) (.int .u64 ((rd_T27 y206 x26_2).f1))) (fun _ hk => hk.2) (.int .u8 ((rd_T27 y206 x26_2).f2))) (fun _ hk => hk.2) (.int .u8 ((rd_T27 y206 x26_2).f3))) (fun _ hk => hk.2) (.int .u8 ((rd_T27 y206 x26_2).f4.f0))) (fun _ hk => hk.2) (.int .u8 ((rd_T27 y206 x26_2).f4.f1))) (fun _ hk => hk.2) (.int .u8 ((rd_T27 y206 x26_2).f4.f2))) (fun _ hk => hk.2) (.int .u8 ((rd_T27 y206 x26_2).f4.f3))) (fun _ hk => hk.2) (.int .u8 ((rd_T27 y206 x26_2).f4.f4))) (fun _ hk => hk.2) (.int .u8 ((rd_T27 y206 x26_2).f4.f5))) (fun _ hk => hk.2) (.int .u8 ((rd_T27 y206 x26_2).f4.f6))) (fun _ hk => hk.2) (.int .u8 ((rd_T27 y206 x26_2).f4.f7))) (fun _ hk => hk.2) (.string ((rd_T27 y206 x26_2).f5))) (fun _ h_ => h_.1))) hb); have n1_ := Aside0.mk (blk_below (g := gb210) (o := .cells #[.int .u64 ((rd_T27 y206 x26_2).f0), .int .u64 ((rd_T27 y206 x26_2).f1), .int .u8 ((rd_T27 y206 x26_2).f2), .int .u8 ((rd_T27 y206 x26_2).f3), .int .u8 ((rd_T27 y206 x26_2).f4.f0), .int .u8 ((rd_T27 y206 x26_2).f4.f1), .int .u8 ((rd_T27 y206 x26_2).f4.f2), .int .u8 ((rd_T27 y206 x26_2).f4.f3), .int .u8 ((rd_T27 y206 x26_2).f4.f4), .int .u8 ((rd_T27 y206 x26_2).f4.f5), .int .u8 ((rd_T27 y206 x26_2).f4.f6), .int .u8 ((rd_T27 y206 x26_2).f4.f7), .string ((rd_T27 y206 x26_2).f5)] 27 (0, 0)) (by (with_reducible repeat (first | refine blk_drewN ?_ _ | refine blk_drew ?_ | refine blk_alloc ?_ _)); refine blk_put (cs := #[.int .u64 ((rd_T27 y206 x26_2).f0), .int .u64 ((rd_T27 y206 x26_2).f1), .int .u8 ((rd_T27 y206 x26_2).f2), .int .u8 ((rd_T27 y206 x26_2).f3), .int .u8 ((rd_T27 y206 x26_2).f4.f0), .int .u8 ((rd_T27 y206 x26_2).f4.f1), .int .u8 ((rd_T27 y206 x26_2).f4.f2), .int .u8 ((rd_T27 y206 x26_2).f4.f3), .int .u8 ((rd_T27 y206 x26_2).f4.f4), .int .u8 ((rd_T27 y206 x26_2).f4.f5), .int .u8 ((rd_T27 y206 x26_2).f4.f6), .int .u8 ((rd_T27 y206 x26_2).f4.f7), .string (⟨#[]⟩ : ByteArray)]) ?_ 12 _ rfl; (with_reducible repeat (first | refine blk_drewN ?_ _ | refine blk_drew ?_ | refine blk_alloc ?_ _)); refine blk_put (cs := #[.int .u64 ((rd_T27 y206 x26_2).f0), .int .u64 ((rd_T27 y206 x26_2).f1), .int .u8 ((rd_T27 y206 x26_2).f2), .int .u8 ((rd_T27 y206 x26_2).f3), .int .u8 ((rd_T27 y206 x26_2).f4.f0), .int .u8 ((rd_T27 y206 x26_2).f4.f1), .int .u8 ((rd_T27 y206 x26_2).f4.f2), .int .u8 ((rd_T27 y206 x26_2).f4.f3), .int .u8 ((rd_T27 y206 x26_2).f4.f4), .int .u8 ((rd_T27 y206 x26_2).f4.f5), .int .u8 ((rd_T27 y206 x26_2).f4.f6), .int .u8 0, .string (⟨#[]⟩ : ByteArray)]) ?_ 11 _ rfl; (with_reducible repeat (first | refine blk_drewN ?_ _ | refine blk_drew ?_ | refine blk_alloc ?_ _)); refine blk_put (cs := #[.int .u64 ((rd_T27 y206 x26_2).f0), .int .u64 ((rd_T27 y206 x26_2).f1), .int .u8 ((rd_T27 y206 x26_2).f2), .int .u8 ((rd_T27 y206 x26_2).f3), .int .u8 ((rd_T27 y206 x26_2).f4.f0), .int .u8 ((rd_T27 y206 x26_2).f4.f1), .int .u8 ((rd_T27 y206 x26_2).f4.f2), .int .u8 ((rd_T27 y206 x26_2).f4.f3), .int .u8 ((rd_T27 y206 x26_2).f4.f4), .int .u8 ((rd_T27 y206 x26_2).f4.f5), .int .u8 0, .int .u8 0, .string (⟨#[]⟩ : ByteArray)]) ?_ 10 _ rfl; (with_reducible repeat (first | refine blk_drewN ?_ _ | refine blk_drew ?_ | refine blk_alloc ?_ _)); refine blk_put (cs := #[.int .u64 ((rd_T27 y206 x26_2).f0), .int .u64 ((rd_T27 y206 x26_2).f1), .int .u8 ((rd_T27 y206 x26_2).f2), .int .u8 ((rd_T27 y206 x26_2).f3), .int .u8 ((rd_T27 y206 x26_2).f4.f0), .int .u8 ((rd_T27 y206 x26_2).f4.f1), .int .u8 ((rd_T27 y206 x26_2).f4.f2), .int .u8 ((rd_T27 y206 x26_2).f4.f3), .int .u8 ((rd_T27 y206 x26_2).f4.f4), .int .u8 0, .int .u8 0, .int .u8 0, .string (⟨#[]⟩ : ByteArray)]) ?_ 9 _ rfl; (with_reducible repeat (first | refine blk_drewN ?_ _ | refine blk_drew ?_ | refine blk_alloc ?_ _)); refine blk_put (cs := #[.int .u64 ((rd_T27 y206 x26_2).f0), .int .u64 ((rd_T27 y206 x26_2).f1), .int .u8 ((rd_T27 y206 x26_2).f2), .int .u8 ((rd_T27 y206 x26_2).f3), .int .u8 ((rd_T27 y206 x26_2).f4.f0), .int .u8 ((rd_T27 y206 x26_2).f4.f1), .int .u8 ((rd_T27 y206 x26_2).f4.f2), .int .u8 ((rd_T27 y206 x26_2).f4.f3), .int .u8 0, .int .u8 0, .int .u8 0, .int .u8 0, .string (⟨#[]⟩ : ByteArray)]) ?_ 8 _ rfl; (with_reducible repeat (first | refine blk_drewN ?_ _ | refine blk_drew ?_ | refine blk_alloc ?_ _)); refine blk_put (cs := #[.int .u64 ((rd_T27 y206 x26_2).f0), .int .u64 ((rd_T27 y206 x26_2).f1), .int .u8 ((rd_T27 y206 x26_2).f2), .int .u8 ((rd_T27 y206 x26_2).f3), .int .u8 ((rd_T27 y206 x26_2).f4.f0), .int .u8 ((rd_T27 y206 x26_2).f4.f1), .int .u8 ((rd_T27 y206 x26_2).f4.f2), .int .u8 0, .int .u8 0, .int .u8 0, .int .u8 0, .int .u8 0, .string (⟨#[]⟩ : ByteArray)]) ?_ 7 _ rfl; (with_reducible repeat (first | refine blk_drewN ?_ _ | refine blk_drew ?_ | refine blk_alloc ?_ _)); refine blk_put (cs := #[.int .u64 ((rd_T27 y206 x26_2).f0), .int .u64 ((rd_T27 y206 x26_2).f1), .int .u8 ((rd_T27 y206 x26_2).f2), .int .u8 ((rd_T27 y206 x26_2).f3), .int .u8 ((rd_T27 y206 x26_2).f4.f0), .int .u8 ((rd_T27 y206 x26_2).f4.f1), .int .u8 0, .int .u8 0, .int .u8 0, .int .u8 0, .int .u8 0, .int .u8 0, .string (⟨#[]⟩ : ByteArray)]) ?_ 6 _ rfl; (with_reducible repeat (first | refine blk_drewN ?_ _ | refine blk_drew ?_ | refine blk_alloc ?_ _)); refine blk_put (cs := #[.int .u64 ((rd_T27 y206 x26_2).f0), .int .u64 ((rd_T27 y206 x26_2).f1), .int .u8 ((rd_T27 y206 x26_2).f2), .int .u8 ((rd_T27 y206 x26_2).f3), .int .u8 ((rd_T27 y206 x26_2).f4.f0), .int .u8 0, .int .u8 0, .int .u8 0, .int .u8 0, .int .u8 0, .int .u8 0, .int .u8 0, .string (⟨#[]⟩ : ByteArray)]) ?_ 5 _ rfl; (with_reducible repeat (first | refine blk_drewN ?_ _ | refine blk_drew ?_ | refine blk_alloc ?_ _)); refine blk_put (cs := #[.int .u64 ((rd_T27 y206 x26_2).f0), .int .u64 ((rd_T27 y206 x26_2).f1), .int .u8 ((rd_T27 y206 x26_2).f2), .int .u8 ((rd_T27 y206 x26_2).f3), .int .u8 0, .int .u8 0, .int .u8 0, .int .u8 0, .int .u8 0, .int .u8 0, .int .u8 0, .int .u8 0, .string (⟨#[]⟩ : ByteArray)]) ?_ 4 _ rfl; (with_reducible repeat (first | refine blk_drewN ?_ _ | refine blk_drew ?_ | refine blk_alloc ?_ _)); refine blk_put (cs := #[.int .u64 ((rd_T27 y206 x26_2).f0), .int .u64 ((rd_T27 y206 x26_2).f1), .int .u8 ((rd_T27 y206 x26_2).f2), .int .u8 0, .int .u8 0, .int .u8 0, .int .u8 0, .int .u8 0, .int .u8 0, .int .u8 0, .int .u8 0, .int .u8 0, .string (⟨#[]⟩ : ByteArray)]) ?_ 3 _ rfl; (with_reducible repeat (first | refine blk_drewN ?_ _ | refine blk_drew ?_ | refine blk_alloc ?_ _)); refine blk_put (cs := #[.int .u64 ((rd_T27 y206 x26_2).f0), .int .u64 ((rd_T27 y206 x26_2).f1), .int .u8 0, .int .u8 0, .int .u8 0, .int .u8 0, .int .u8 0, .int .u8 0, .int .u8 0, .int .u8 0, .int .u8 0, .int .u8 0, .string (⟨#[]⟩ : ByteArray)]) ?_ 2 _ rfl; (with_reducible repeat (first | refine blk_drewN ?_ _ | refine blk_drew ?_ | refine blk_alloc ?_ _)); refine blk_put (cs := #[.int .u64 ((rd_T27 y206 x26_2).f0), .int .u64 0, .int .u8 0, .int .u8 0, .int .u8 0, .int .u8 0, .int .u8 0, .int .u8 0, .int .u8 0, .int .u8 0, .int .u8 0, .int .u8 0, .string (⟨#[]⟩ : ByteArray)]) ?_ 1 _ rfl; (with_reducible repeat (first | refine blk_drewN ?_ _ | refine blk_drew ?_ | refine blk_alloc ?_ _)); refine blk_put (cs := #[.int .u64 0, .int .u64 0, .int .u8 0, .int .u8 0, .int .u8 0, .int .u8 0, .int .u8 0, .int .u8 0, .int .u8 0, .int .u8 0, .int .u8 0, .int .u8 0, .string (⟨#[]⟩ : ByteArray)]) ?_ 0 _ rfl; (with_reducible repeat (first | refine blk_drewN ?_ _ | refine blk_drew ?_ | refine blk_alloc ?_ _)); exact BK210.out) hb); have n2_ := Aside0.mk (below_step (by repeat (first | (with_reducible first | exact HB.out | apply below_alloc | apply pw_below_drewN | apply below_drew1 | refine below_set ?_ GE210.out) | exact HB.out)) hb); clear HO_24; clear BK210; clear HB; have HO_24 := n0_; have BK210 := n1_; have HB := n2_; clear n0_ n1_ n2_; (try clear hb); (try clear hb2); (try clear hk); (try clear hi); have hcz22_0 : w21.cell? ⟨gb210, 0, none⟩ = some (.int .u64 ((rd_T27 y206 x26_2).f0)) := (blk_cell BK210.out 0).trans rfl; have hcz22_1 : w21.cell? ⟨gb210, 1, none⟩ = some (.int .u64 ((rd_T27 y206 x26_2).f1)) := (blk_cell BK210.out 1).trans rfl; have hcz22_2 : w21.cell? ⟨gb210, 2, none⟩ = some (.int .u8 ((rd_T27 y206 x26_2).f2)) := (blk_cell BK210.out 2).trans rfl; have hcz22_3 : w21.cell? ⟨gb210, 3, none⟩ = some (.int .u8 ((rd_T27 y206 x26_2).f3)) := (blk_cell BK210.out 3).trans rfl; have hcz22_4 : w21.cell? ⟨gb210, 4, none⟩ = some (.int .u8 ((rd_T27 y206 x26_2).f4.f0)) := (blk_cell BK210.out 4).trans rfl; have hcz22_5 : w21.cell? ⟨gb210, 5, none⟩ = some (.int .u8 ((rd_T27 y206 x26_2).f4.f1)) := (blk_cell BK210.out 5).trans rfl; have hcz22_6 : w21.cell? ⟨gb210, 6, none⟩ = some (.int .u8 ((rd_T27 y206 x26_2).f4.f2)) := (blk_cell BK210.out 6).trans rfl; have hcz22_7 : w21.cell? ⟨gb210, 7, none⟩ = some (.int .u8 ((rd_T27 y206 x26_2).f4.f3)) := (blk_cell BK210.out 7).trans rfl; have hcz22_8 : w21.cell? ⟨gb210, 8, none⟩ = some (.int .u8 ((rd_T27 y206 x26_2).f4.f4)) := (blk_cell BK210.out 8).trans rfl; have hcz22_9 : w21.cell? ⟨gb210, 9, none⟩ = some (.int .u8 ((rd_T27 y206 x26_2).f4.f5)) := (blk_cell BK210.out 9).trans rfl; have hcz22_10 : w21.cell? ⟨gb210, 10, none⟩ = some (.int .u8 ((rd_T27 y206 x26_2).f4.f6)) := (blk_cell BK210.out 10).trans rfl; have hcz22_11 : w21.cell? ⟨gb210, 11, none⟩ = some (.int .u8 ((rd_T27 y206 x26_2).f4.f7)) := (blk_cell BK210.out 11).trans rfl; have hcz22_12 : w21.cell? ⟨gb210, 12, none⟩ = some (.string ((rd_T27 y206 x26_2).f5)) := (blk_cell BK210.out 12).trans rfl; have hfz22_0 := blk_frozen BK210.out 0; have hfz22_1 := blk_frozen BK210.out 1; have hfz22_2 := blk_frozen BK210.out 2; have hfz22_3 := blk_frozen BK210.out 3; have hfz22_4 := blk_frozen BK210.out 4; have hfz22_5 := blk_frozen BK210.out 5; have hfz22_6 := blk_frozen BK210.out 6; have hfz22_7 := blk_frozen BK210.out 7; have hfz22_8 := blk_frozen BK210.out 8; have hfz22_9 := blk_frozen BK210.out 9; have hfz22_10 := blk_frozen BK210.out 10; have hfz22_11 := blk_frozen BK210.out 11; have hfz22_12 := blk_frozen BK210.out 12) | (go_at_call 9; (with_reducible refine (entry_Write.calls k2 ((rd_T27 y206 x26_2).f0) ((rd_T27 y206 x26_2).f1) ((rd_T27 y206 x26_2).f2) ((rd_T27 y206 x26_2).f3) ((rd_T27 y206 x26_2).f4.f0) ((rd_T27 y206 x26_2).f4.f1) ((rd_T27 y206 x26_2).f4.f2) ((rd_T27 y206 x26_2).f4.f3) ((rd_T27 y206 x26_2).f4.f4) ((rd_T27 y206 x26_2).f4.f5) ((rd_T27 y206 x26_2).f4.f6) ((rd_T27 y206 x26_2).f4.f7) ((rd_T27 y206 x26_2).f5) t212 _ A17.out).mono ?_); rintro e w23 ⟨rfl, hb⟩; have n0_ := Aside0.mk (Kd.R_below (by (with_reducible repeat (first | apply Kd.R_alloc | apply Kd.R_drewN | apply Kd.R_drew)); exact HO_24.out) hb); have n1_ := Aside0.mk (blk_below (g := gb210) (o := .cells #[.int .u64 ((rd_T27 y206 x26_2).f0), .int .u64 ((rd_T27 y206 x26_2).f1), .int .u8 ((rd_T27 y206 x26_2).f2), .int .u8 ((rd_T27 y206 x26_2).f3), .int .u8 ((rd_T27 y206 x26_2).f4.f0), .int .u8 ((rd_T27 y206 x26_2).f4.f1), .int .u8 ((rd_T27 y206 x26_2).f4.f2), .int .u8 ((rd_T27 y206 x26_2).f4.f3), .int .u8 ((rd_T27 y206 x26_2).f4.f4), .int .u8 ((rd_T27 y206 x26_2).f4.f5), .int .u8 ((rd_T27 y206 x26_2).f4.f6), .int .u8 ((rd_T27 y206 x26_2).f4.f7), .string ((rd_T27 y206 x26_2).f5)] 27 (0, 0)) (by (with_reducible repeat (first | refine blk_drewN ?_ _ | refine blk_drew ?_ | refine blk_alloc ?_ _)); exact BK210.out) hb); have n2_ := Aside0.mk (below_step (by repeat (first | (with_reducible first | exact HB.out | apply below_alloc | apply pw_below_drewN | apply below_drew1 | refine below_set ?_ GE210.out) | exact HB.out)) hb); clear HO_24; clear BK210; clear HB; have HO_24 := n0_; have BK210 := n1_; have HB := n2_; clear n0_ n1_ n2_; (try clear hb); (try clear hb2); (try clear hk); (try clear hi)))
                      go_roundg k2
                      case measure => have := HJ0.out; have := HK2.out; omega
                      case rel => exact ⟨(wrap64 (x26_2 + 1)), (by first | (with_reducible rfl) | (simp; done) | (simp [*]; done) | (refine congrArg (Value.int _) ?_; unfold wrap64; omega) | rfl), H', ⟨by have := HJ0.out; have := HK2.out; omega⟩, ⟨by (with_reducible repeat (first | apply Kd.R_alloc | apply Kd.R_drewN | apply Kd.R_drew)); exact Kd.R_mono HO_24.out (fun _ hk => trivial)⟩, ⟨by repeat (first | (with_reducible first | exact HB.out | apply below_alloc | apply pw_below_drewN | apply below_drew1 | refine below_set ?_ GE210.out) | exact HB.out)⟩⟩
                    · rw [if_neg c18] at H
                      have c18b0 : (t212.toList == ([] : List UInt8)) = false := beq_eq_false_iff_ne.mpr c18
                      have c18b1 : (t212.toList != ([] : List UInt8)) = true := bne_iff_ne.mpr c18
                      exact absurd (Option.some.inj H) (by rw [hr_]; decide)
                · rw [if_neg c14] at H
                  exact absurd H (by simp)
              · rw [if_neg c13] at H
                exact absurd H (by simp)
            · rw [if_neg c12] at H
              have c12b0 : decide (x26_2 < (y206.length : Int)) = false := decide_eq_false c12
              clear c12
              replace H := Option.bind_eq_some_iff.mp H
              obtain ⟨⟨t213, t214, t215, t216, t217, t218, t219, t220, t221, t222, t223, t224, t225, t226⟩, A240, H⟩ := H
              replace H : (if t226 = true then (some false) else ((entry_Majority.f 3).bind fun t228 => (if t228 = 2 then ((entry_Majority.f 31).bind fun t229 => (if t229 = 3 then ((entry_Majority.f 0).bind fun t230 => (if t230 = 1 then ((entry_Majority.f 224).bind fun t231 => (if t231 = 1 then ((entry_Members.f k2 0).bind fun t232 => (if (t232.length : Int) = 0 then ((entry_Members.f k2 255).bind fun t235 => (if (t235.length : Int) = 5 then ((wapentakelaw04_awake.f k2).bind fun t238 => (some t238)) else (some false))) else (some false))) else (some false))) else (some false))) else (some false))) else (some false)))) = some r := H
              have A24 := Aside0.mk A240
              clear A240
              by_cases c25 : t226 = true
              · subst c25
                have H1 : (some false) = some r := by rw [if_pos rfl] at H; exact H
                clear H
                have H := H1
                clear H1
                exact absurd (Option.some.inj H) (by rw [hr_]; decide)
              · replace c25 := Bool.eq_false_iff.mpr c25
                subst c25
                have H1 : ((entry_Majority.f 3).bind fun t228 => (if t228 = 2 then ((entry_Majority.f 31).bind fun t229 => (if t229 = 3 then ((entry_Majority.f 0).bind fun t230 => (if t230 = 1 then ((entry_Majority.f 224).bind fun t231 => (if t231 = 1 then ((entry_Members.f k2 0).bind fun t232 => (if (t232.length : Int) = 0 then ((entry_Members.f k2 255).bind fun t235 => (if (t235.length : Int) = 5 then ((wapentakelaw04_awake.f k2).bind fun t238 => (some t238)) else (some false))) else (some false))) else (some false))) else (some false))) else (some false))) else (some false))) = some r := by rw [if_neg (show ¬ (false = true) by decide)] at H; exact H
                clear H
                have H := H1
                clear H1
                replace H := Option.bind_eq_some_iff.mp H
                obtain ⟨t228, A260, H⟩ := H
                replace H : (if t228 = 2 then ((entry_Majority.f 31).bind fun t229 => (if t229 = 3 then ((entry_Majority.f 0).bind fun t230 => (if t230 = 1 then ((entry_Majority.f 224).bind fun t231 => (if t231 = 1 then ((entry_Members.f k2 0).bind fun t232 => (if (t232.length : Int) = 0 then ((entry_Members.f k2 255).bind fun t235 => (if (t235.length : Int) = 5 then ((wapentakelaw04_awake.f k2).bind fun t238 => (some t238)) else (some false))) else (some false))) else (some false))) else (some false))) else (some false))) else (some false)) = some r := H
                have A26 := Aside0.mk A260
                clear A260
                by_cases c27 : t228 = 2
                · rw [if_pos c27] at H
                  have c27b0 : (t228 == 2) = true := beq_iff_eq.mpr c27
                  have c27b1 : (t228 != 2) = false := bne_eq_false_iff_eq.mpr c27
                  clear c27
                  replace H := Option.bind_eq_some_iff.mp H
                  obtain ⟨t229, A280, H⟩ := H
                  replace H : (if t229 = 3 then ((entry_Majority.f 0).bind fun t230 => (if t230 = 1 then ((entry_Majority.f 224).bind fun t231 => (if t231 = 1 then ((entry_Members.f k2 0).bind fun t232 => (if (t232.length : Int) = 0 then ((entry_Members.f k2 255).bind fun t235 => (if (t235.length : Int) = 5 then ((wapentakelaw04_awake.f k2).bind fun t238 => (some t238)) else (some false))) else (some false))) else (some false))) else (some false))) else (some false)) = some r := H
                  have A28 := Aside0.mk A280
                  clear A280
                  by_cases c29 : t229 = 3
                  · rw [if_pos c29] at H
                    have c29b0 : (t229 == 3) = true := beq_iff_eq.mpr c29
                    have c29b1 : (t229 != 3) = false := bne_eq_false_iff_eq.mpr c29
                    clear c29
                    replace H := Option.bind_eq_some_iff.mp H
                    obtain ⟨t230, A300, H⟩ := H
                    replace H : (if t230 = 1 then ((entry_Majority.f 224).bind fun t231 => (if t231 = 1 then ((entry_Members.f k2 0).bind fun t232 => (if (t232.length : Int) = 0 then ((entry_Members.f k2 255).bind fun t235 => (if (t235.length : Int) = 5 then ((wapentakelaw04_awake.f k2).bind fun t238 => (some t238)) else (some false))) else (some false))) else (some false))) else (some false)) = some r := H
                    have A30 := Aside0.mk A300
                    clear A300
                    by_cases c31 : t230 = 1
                    · rw [if_pos c31] at H
                      have c31b0 : (t230 == 1) = true := beq_iff_eq.mpr c31
                      have c31b1 : (t230 != 1) = false := bne_eq_false_iff_eq.mpr c31
                      clear c31
                      replace H := Option.bind_eq_some_iff.mp H
                      obtain ⟨t231, A320, H⟩ := H
                      replace H : (if t231 = 1 then ((entry_Members.f k2 0).bind fun t232 => (if (t232.length : Int) = 0 then ((entry_Members.f k2 255).bind fun t235 => (if (t235.length : Int) = 5 then ((wapentakelaw04_awake.f k2).bind fun t238 => (some t238)) else (some false))) else (some false))) else (some false)) = some r := H
                      have A32 := Aside0.mk A320
                      clear A320
                      by_cases c33 : t231 = 1
                      · rw [if_pos c33] at H
                        have c33b0 : (t231 == 1) = true := beq_iff_eq.mpr c33
                        have c33b1 : (t231 != 1) = false := bne_eq_false_iff_eq.mpr c33
                        clear c33
                        replace H := Option.bind_eq_some_iff.mp H
                        obtain ⟨t232, A340, H⟩ := H
                        replace H : (if (t232.length : Int) = 0 then ((entry_Members.f k2 255).bind fun t235 => (if (t235.length : Int) = 5 then ((wapentakelaw04_awake.f k2).bind fun t238 => (some t238)) else (some false))) else (some false)) = some r := H
                        have A34 := Aside0.mk A340
                        clear A340
                        by_cases c35 : (t232.length : Int) = 0
                        · rw [if_pos c35] at H
                          have c35b0 : ((t232.length : Int) == 0) = true := beq_iff_eq.mpr c35
                          have c35b1 : ((t232.length : Int) != 0) = false := bne_eq_false_iff_eq.mpr c35
                          clear c35
                          replace H := Option.bind_eq_some_iff.mp H
                          obtain ⟨t235, A360, H⟩ := H
                          replace H : (if (t235.length : Int) = 5 then ((wapentakelaw04_awake.f k2).bind fun t238 => (some t238)) else (some false)) = some r := H
                          have A36 := Aside0.mk A360
                          clear A360
                          by_cases c37 : (t235.length : Int) = 5
                          · rw [if_pos c37] at H
                            have c37b0 : ((t235.length : Int) == 5) = true := beq_iff_eq.mpr c37
                            have c37b1 : ((t235.length : Int) != 5) = false := bne_eq_false_iff_eq.mpr c37
                            clear c37
                            replace H := Option.bind_eq_some_iff.mp H
                            obtain ⟨t238, A380, H⟩ := H
                            replace H : (some t238) = some r := H
                            have A38 := Aside0.mk A380
                            clear A380
                            clear hr_
                            obtain rfl := Option.some.inj H
                            go_wp2_with (first | ((with_reducible refine gate_callee (f := 11) rfl ?_); refine goesL_ (some 39) rfl rfl Try.func11 (by kernel_rfl) rfl #[.string (⟨#[]⟩ : ByteArray)] rfl (by (try simp only [List.map_toArray, List.map_cons, List.map_nil]); first | done | rfl | (simp only [List.length_drop, List.length_take]; rfl)) ?_; (with_reducible refine (entry_Read.calls k2 (⟨#[]⟩ : ByteArray) t213 t214 t215 t216 t217 t218 t219 t220 t221 t222 t223 t224 t225 false _ A24.out).mono ?_); rintro e w39 ⟨rfl, hb⟩; refine ⟨_, rfl, ?_⟩; have n0_ := Aside0.mk (Kd.R_below (by (with_reducible repeat (first | apply Kd.R_alloc | apply Kd.R_drewN | apply Kd.R_drew)); exact HO_24.out) hb); have n1_ := Aside0.mk (below_step (by repeat (first | (with_reducible first | exact HB.out | apply below_alloc | apply pw_below_drewN | apply below_drew1) | exact HB.out)) hb); clear HO_24; clear HB; have HO_24 := n0_; have HB := n1_; clear n0_ n1_; (try clear hb); (try clear hb2); (try clear hk); (try clear hi)) | ((with_reducible refine gate_dst (N := 3) rfl ?_); (try (refine gate_guard (by rfl) ?_; dsimp only)); refine box_event ?hg (N := 3) ?hd (cs := #[.int .u64 0, .int .u64 0, .int .u8 0, .int .u8 0, .int .u8 0, .int .u8 0, .int .u8 0, .int .u8 0, .int .u8 0, .int .u8 0, .int .u8 0, .int .u8 0, .string (⟨#[]⟩ : ByteArray)]) (t := 27) ?hr ?_; (case hd => rfl); (case hg => rfl); (case hr => first | (go_simp; done) | (go_simp; rfl)); intro gb227 hg w40 hbox hb; have n0_ := Aside0.mk (Kd.R_below (Kd.R_elderB (by (with_reducible repeat (first | apply Kd.R_alloc | apply Kd.R_drewN | apply Kd.R_drew)); exact HO_24.out) gb227 (Nat.le_of_eq hg.symm)) hb); have n1_ := Aside0.mk (below_step (by repeat (first | (with_reducible first | exact HB.out | apply below_alloc | apply pw_below_drewN | apply below_drew1) | exact HB.out)) hb); have n2_ := Aside0.mk (hbox); have n3_ := Aside0.mk ((by rw [hg]; exact (below_size (by repeat (first | (with_reducible first | exact HB.out | apply below_alloc | apply pw_below_drewN | apply below_drew1) | exact HB.out))) : w.heap.size ≤ gb227)); have n4_ := Aside0.mk ((by rw [hg]; exact (below_size (by repeat (first | (with_reducible first | exact HB.out | apply below_alloc | apply pw_below_drewN | apply below_drew1) | exact HB.out))) : w.heap.size ≤ gb227)); clear HO_24; clear HB; have HO_24 := n0_; have HB := n1_; have BK227 := n2_; have GW227 := n3_; have GE227 := n4_; clear n0_ n1_ n2_ n3_ n4_; clear hb hbox hg; have hcz41_0 : w40.cell? ⟨gb227, 0, none⟩ = some (.int .u64 0) := (blk_cell BK227.out 0).trans rfl; have hcz41_1 : w40.cell? ⟨gb227, 1, none⟩ = some (.int .u64 0) := (blk_cell BK227.out 1).trans rfl; have hcz41_2 : w40.cell? ⟨gb227, 2, none⟩ = some (.int .u8 0) := (blk_cell BK227.out 2).trans rfl; have hcz41_3 : w40.cell? ⟨gb227, 3, none⟩ = some (.int .u8 0) := (blk_cell BK227.out 3).trans rfl; have hcz41_4 : w40.cell? ⟨gb227, 4, none⟩ = some (.int .u8 0) := (blk_cell BK227.out 4).trans rfl; have hcz41_5 : w40.cell? ⟨gb227, 5, none⟩ = some (.int .u8 0) := (blk_cell BK227.out 5).trans rfl; have hcz41_6 : w40.cell? ⟨gb227, 6, none⟩ = some (.int .u8 0) := (blk_cell BK227.out 6).trans rfl; have hcz41_7 : w40.cell? ⟨gb227, 7, none⟩ = some (.int .u8 0) := (blk_cell BK227.out 7).trans rfl; have hcz41_8 : w40.cell? ⟨gb227, 8, none⟩ = some (.int .u8 0) := (blk_cell BK227.out 8).trans rfl; have hcz41_9 : w40.cell? ⟨gb227, 9, none⟩ = some (.int .u8 0) := (blk_cell BK227.out 9).trans rfl; have hcz41_10 : w40.cell? ⟨gb227, 10, none⟩ = some (.int .u8 0) := (blk_cell BK227.out 10).trans rfl; have hcz41_11 : w40.cell? ⟨gb227, 11, none⟩ = some (.int .u8 0) := (blk_cell BK227.out 11).trans rfl; have hcz41_12 : w40.cell? ⟨gb227, 12, none⟩ = some (.string (⟨#[]⟩ : ByteArray)) := (blk_cell BK227.out 12).trans rfl; have hfz41_0 := blk_frozen BK227.out 0; have hfz41_1 := blk_frozen BK227.out 1; have hfz41_2 := blk_frozen BK227.out 2; have hfz41_3 := blk_frozen BK227.out 3; have hfz41_4 := blk_frozen BK227.out 4; have hfz41_5 := blk_frozen BK227.out 5; have hfz41_6 := blk_frozen BK227.out 6; have hfz41_7 := blk_frozen BK227.out 7; have hfz41_8 := blk_frozen BK227.out 8; have hfz41_9 := blk_frozen BK227.out 9; have hfz41_10 := blk_frozen BK227.out 10; have hfz41_11 := blk_frozen BK227.out 11; have hfz41_12 := blk_frozen BK227.out 12) | (go_at_call 12; (with_reducible refine (entry_Majority.calls 3 t228 _ A26.out).mono ?_); rintro e w42 ⟨rfl, hb⟩; have n0_ := Aside0.mk (Kd.R_below (by (with_reducible repeat (first | apply Kd.R_alloc | apply Kd.R_drewN | apply Kd.R_drew)); exact (Kd.R_mono (Kd.R_far (p := ⟨gb227, 12, none⟩) (Kd.R_far (p := ⟨gb227, 11, none⟩) (Kd.R_far (p := ⟨gb227, 10, none⟩) (Kd.R_far (p := ⟨gb227, 9, none⟩) (Kd.R_far (p := ⟨gb227, 8, none⟩) (Kd.R_far (p := ⟨gb227, 7, none⟩) (Kd.R_far (p := ⟨gb227, 6, none⟩) (Kd.R_far (p := ⟨gb227, 5, none⟩) (Kd.R_far (p := ⟨gb227, 4, none⟩) (Kd.R_far (p := ⟨gb227, 3, none⟩) (Kd.R_far (p := ⟨gb227, 2, none⟩) (Kd.R_far (p := ⟨gb227, 1, none⟩) (Kd.R_far (p := ⟨gb227, 0, none⟩) (Kd.R_mono HO_24.out (fun k_ hk => (⟨hk, hk.2⟩ : _ ∧ k_ ≠ gb227))) (fun _ hk => hk.2) (.int .u64 t213)) (fun _ hk => hk.2) (.int .u64 t214)) (fun _ hk => hk.2) (.int .u8 t215)) (fun _ hk => hk.2) (.int .u8 t216)) (fun _ hk => hk.2) (.int .u8 t217)) (fun _ hk => hk.2) (.int .u8 t218)) (fun _ hk => hk.2) (.int .u8 t219)) (fun _ hk => hk.2) (.int .u8 t220)) (fun _ hk => hk.2) (.int .u8 t221)) (fun _ hk => hk.2) (.int .u8 t222)) (fun _ hk => hk.2) (.int .u8 t223)) (fun _ hk => hk.2) (.int .u8 t224)) (fun _ hk => hk.2) (.string t225)) (fun _ h_ => h_.1))) hb); have n1_ := Aside0.mk (blk_below (g := gb227) (o := .cells #[.int .u64 t213, .int .u64 t214, .int .u8 t215, .int .u8 t216, .int .u8 t217, .int .u8 t218, .int .u8 t219, .int .u8 t220, .int .u8 t221, .int .u8 t222, .int .u8 t223, .int .u8 t224, .string t225] 27 (0, 0)) (by (with_reducible repeat (first | refine blk_drewN ?_ _ | refine blk_drew ?_ | refine blk_alloc ?_ _)); refine blk_put (cs := #[.int .u64 t213, .int .u64 t214, .int .u8 t215, .int .u8 t216, .int .u8 t217, .int .u8 t218, .int .u8 t219, .int .u8 t220, .int .u8 t221, .int .u8 t222, .int .u8 t223, .int .u8 t224, .string (⟨#[]⟩ : ByteArray)]) ?_ 12 _ rfl; (with_reducible repeat (first | refine blk_drewN ?_ _ | refine blk_drew ?_ | refine blk_alloc ?_ _)); refine blk_put (cs := #[.int .u64 t213, .int .u64 t214, .int .u8 t215, .int .u8 t216, .int .u8 t217, .int .u8 t218, .int .u8 t219, .int .u8 t220, .int .u8 t221, .int .u8 t222, .int .u8 t223, .int .u8 0, .string (⟨#[]⟩ : ByteArray)]) ?_ 11 _ rfl; (with_reducible repeat (first | refine blk_drewN ?_ _ | refine blk_drew ?_ | refine blk_alloc ?_ _)); refine blk_put (cs := #[.int .u64 t213, .int .u64 t214, .int .u8 t215, .int .u8 t216, .int .u8 t217, .int .u8 t218, .int .u8 t219, .int .u8 t220, .int .u8 t221, .int .u8 t222, .int .u8 0, .int .u8 0, .string (⟨#[]⟩ : ByteArray)]) ?_ 10 _ rfl; (with_reducible repeat (first | refine blk_drewN ?_ _ | refine blk_drew ?_ | refine blk_alloc ?_ _)); refine blk_put (cs := #[.int .u64 t213, .int .u64 t214, .int .u8 t215, .int .u8 t216, .int .u8 t217, .int .u8 t218, .int .u8 t219, .int .u8 t220, .int .u8 t221, .int .u8 0, .int .u8 0, .int .u8 0, .string (⟨#[]⟩ : ByteArray)]) ?_ 9 _ rfl; (with_reducible repeat (first | refine blk_drewN ?_ _ | refine blk_drew ?_ | refine blk_alloc ?_ _)); refine blk_put (cs := #[.int .u64 t213, .int .u64 t214, .int .u8 t215, .int .u8 t216, .int .u8 t217, .int .u8 t218, .int .u8 t219, .int .u8 t220, .int .u8 0, .int .u8 0, .int .u8 0, .int .u8 0, .string (⟨#[]⟩ : ByteArray)]) ?_ 8 _ rfl; (with_reducible repeat (first | refine blk_drewN ?_ _ | refine blk_drew ?_ | refine blk_alloc ?_ _)); refine blk_put (cs := #[.int .u64 t213, .int .u64 t214, .int .u8 t215, .int .u8 t216, .int .u8 t217, .int .u8 t218, .int .u8 t219, .int .u8 0, .int .u8 0, .int .u8 0, .int .u8 0, .int .u8 0, .string (⟨#[]⟩ : ByteArray)]) ?_ 7 _ rfl; (with_reducible repeat (first | refine blk_drewN ?_ _ | refine blk_drew ?_ | refine blk_alloc ?_ _)); refine blk_put (cs := #[.int .u64 t213, .int .u64 t214, .int .u8 t215, .int .u8 t216, .int .u8 t217, .int .u8 t218, .int .u8 0, .int .u8 0, .int .u8 0, .int .u8 0, .int .u8 0, .int .u8 0, .string (⟨#[]⟩ : ByteArray)]) ?_ 6 _ rfl; (with_reducible repeat (first | refine blk_drewN ?_ _ | refine blk_drew ?_ | refine blk_alloc ?_ _)); refine blk_put (cs := #[.int .u64 t213, .int .u64 t214, .int .u8 t215, .int .u8 t216, .int .u8 t217, .int .u8 0, .int .u8 0, .int .u8 0, .int .u8 0, .int .u8 0, .int .u8 0, .int .u8 0, .string (⟨#[]⟩ : ByteArray)]) ?_ 5 _ rfl; (with_reducible repeat (first | refine blk_drewN ?_ _ | refine blk_drew ?_ | refine blk_alloc ?_ _)); refine blk_put (cs := #[.int .u64 t213, .int .u64 t214, .int .u8 t215, .int .u8 t216, .int .u8 0, .int .u8 0, .int .u8 0, .int .u8 0, .int .u8 0, .int .u8 0, .int .u8 0, .int .u8 0, .string (⟨#[]⟩ : ByteArray)]) ?_ 4 _ rfl; (with_reducible repeat (first | refine blk_drewN ?_ _ | refine blk_drew ?_ | refine blk_alloc ?_ _)); refine blk_put (cs := #[.int .u64 t213, .int .u64 t214, .int .u8 t215, .int .u8 0, .int .u8 0, .int .u8 0, .int .u8 0, .int .u8 0, .int .u8 0, .int .u8 0, .int .u8 0, .int .u8 0, .string (⟨#[]⟩ : ByteArray)]) ?_ 3 _ rfl; (with_reducible repeat (first | refine blk_drewN ?_ _ | refine blk_drew ?_ | refine blk_alloc ?_ _)); refine blk_put (cs := #[.int .u64 t213, .int .u64 t214, .int .u8 0, .int .u8 0, .int .u8 0, .int .u8 0, .int .u8 0, .int .u8 0, .int .u8 0, .int .u8 0, .int .u8 0, .int .u8 0, .string (⟨#[]⟩ : ByteArray)]) ?_ 2 _ rfl; (with_reducible repeat (first | refine blk_drewN ?_ _ | refine blk_drew ?_ | refine blk_alloc ?_ _)); refine blk_put (cs := #[.int .u64 t213, .int .u64 0, .int .u8 0, .int .u8 0, .int .u8 0, .int .u8 0, .int .u8 0, .int .u8 0, .int .u8 0, .int .u8 0, .int .u8 0, .int .u8 0, .string (⟨#[]⟩ : ByteArray)]) ?_ 1 _ rfl; (with_reducible repeat (first | refine blk_drewN ?_ _ | refine blk_drew ?_ | refine blk_alloc ?_ _)); refine blk_put (cs := #[.int .u64 0, .int .u64 0, .int .u8 0, .int .u8 0, .int .u8 0, .int .u8 0, .int .u8 0, .int .u8 0, .int .u8 0, .int .u8 0, .int .u8 0, .int .u8 0, .string (⟨#[]⟩ : ByteArray)]) ?_ 0 _ rfl; (with_reducible repeat (first | refine blk_drewN ?_ _ | refine blk_drew ?_ | refine blk_alloc ?_ _)); exact BK227.out) hb); have n2_ := Aside0.mk (below_step (by repeat (first | (with_reducible first | exact HB.out | apply below_alloc | apply pw_below_drewN | apply below_drew1 | refine below_set ?_ GE227.out) | exact HB.out)) hb); clear HO_24; clear BK227; clear HB; have HO_24 := n0_; have BK227 := n1_; have HB := n2_; clear n0_ n1_ n2_; (try clear hb); (try clear hb2); (try clear hk); (try clear hi)) | (go_at_call 12; (with_reducible refine (entry_Majority.calls 31 t229 _ A28.out).mono ?_); rintro e w43 ⟨rfl, hb⟩; have n0_ := Aside0.mk (Kd.R_below (by (with_reducible repeat (first | apply Kd.R_alloc | apply Kd.R_drewN | apply Kd.R_drew)); exact HO_24.out) hb); have n1_ := Aside0.mk (blk_below (g := gb227) (o := .cells #[.int .u64 t213, .int .u64 t214, .int .u8 t215, .int .u8 t216, .int .u8 t217, .int .u8 t218, .int .u8 t219, .int .u8 t220, .int .u8 t221, .int .u8 t222, .int .u8 t223, .int .u8 t224, .string t225] 27 (0, 0)) (by (with_reducible repeat (first | refine blk_drewN ?_ _ | refine blk_drew ?_ | refine blk_alloc ?_ _)); exact BK227.out) hb); have n2_ := Aside0.mk (below_step (by repeat (first | (with_reducible first | exact HB.out | apply below_alloc | apply pw_below_drewN | apply below_drew1 | refine below_set ?_ GE227.out) | exact HB.out)) hb); clear HO_24; clear BK227; clear HB; have HO_24 := n0_; have BK227 := n1_; have HB := n2_; clear n0_ n1_ n2_; (try clear hb); (try clear hb2); (try clear hk); (try clear hi)) | (go_at_call 12; (with_reducible refine (entry_Majority.calls 0 t230 _ A30.out).mono ?_); rintro e w44 ⟨rfl, hb⟩; have n0_ := Aside0.mk (Kd.R_below (by (with_reducible repeat (first | apply Kd.R_alloc | apply Kd.R_drewN | apply Kd.R_drew)); exact HO_24.out) hb); have n1_ := Aside0.mk (blk_below (g := gb227) (o := .cells #[.int .u64 t213, .int .u64 t214, .int .u8 t215, .int .u8 t216, .int .u8 t217, .int .u8 t218, .int .u8 t219, .int .u8 t220, .int .u8 t221, .int .u8 t222, .int .u8 t223, .int .u8 t224, .string t225] 27 (0, 0)) (by (with_reducible repeat (first | refine blk_drewN ?_ _ | refine blk_drew ?_ | refine blk_alloc ?_ _)); exact BK227.out) hb); have n2_ := Aside0.mk (below_step (by repeat (first | (with_reducible first | exact HB.out | apply below_alloc | apply pw_below_drewN | apply below_drew1 | refine below_set ?_ GE227.out) | exact HB.out)) hb); clear HO_24; clear BK227; clear HB; have HO_24 := n0_; have BK227 := n1_; have HB := n2_; clear n0_ n1_ n2_; (try clear hb); (try clear hb2); (try clear hk); (try clear hi)) | (go_at_call 12; (with_reducible refine (entry_Majority.calls 224 t231 _ A32.out).mono ?_); rintro e w45 ⟨rfl, hb⟩; have n0_ := Aside0.mk (Kd.R_below (by (with_reducible repeat (first | apply Kd.R_alloc | apply Kd.R_drewN | apply Kd.R_drew)); exact HO_24.out) hb); have n1_ := Aside0.mk (blk_below (g := gb227) (o := .cells #[.int .u64 t213, .int .u64 t214, .int .u8 t215, .int .u8 t216, .int .u8 t217, .int .u8 t218, .int .u8 t219, .int .u8 t220, .int .u8 t221, .int .u8 t222, .int .u8 t223, .int .u8 t224, .string t225] 27 (0, 0)) (by (with_reducible repeat (first | refine blk_drewN ?_ _ | refine blk_drew ?_ | refine blk_alloc ?_ _)); exact BK227.out) hb); have n2_ := Aside0.mk (below_step (by repeat (first | (with_reducible first | exact HB.out | apply below_alloc | apply pw_below_drewN | apply below_drew1 | refine below_set ?_ GE227.out) | exact HB.out)) hb); clear HO_24; clear BK227; clear HB; have HO_24 := n0_; have BK227 := n1_; have HB := n2_; clear n0_ n1_ n2_; (try clear hb); (try clear hb2); (try clear hk); (try clear hi)) | (go_at_call 13; (with_reducible refine (entry_Members.calls k2 0 t232 _ A34.out).mono ?_); rintro e w46 ⟨v233, rfl, ho0, hb⟩; have n0_ := Aside0.mk (Kd.R_below (by (with_reducible repeat (first | apply Kd.R_alloc | apply Kd.R_drewN | apply Kd.R_drew)); exact HO_24.out) hb); have n1_ := Aside0.mk (Kd.R_lower ho0 (below_size (by repeat (first | (with_reducible first | exact HB.out | apply below_alloc | apply pw_below_drewN | apply below_drew1 | refine below_set ?_ GE227.out) | exact HB.out)))); have n2_ := Aside0.mk (blk_below (g := gb227) (o := .cells #[.int .u64 t213, .int .u64 t214, .int .u8 t215, .int .u8 t216, .int .u8 t217, .int .u8 t218, .int .u8 t219, .int .u8 t220, .int .u8 t221, .int .u8 t222, .int .u8 t223, .int .u8 t224, .string t225] 27 (0, 0)) (by (with_reducible repeat (first | refine blk_drewN ?_ _ | refine blk_drew ?_ | refine blk_alloc ?_ _)); exact BK227.out) hb); have n3_ := Aside0.mk (below_step (by repeat (first | (with_reducible first | exact HB.out | apply below_alloc | apply pw_below_drewN | apply below_drew1 | refine below_set ?_ GE227.out) | exact HB.out)) hb); clear HO_24; clear BK227; clear HB; have HO_24 := n0_; have HO234 := n1_; have BK227 := n2_; have HB := n3_; clear n0_ n1_ n2_ n3_; (try clear hb); (try clear hb2); (try clear hk); (try clear hi); (try clear ho0); obtain ⟨Ao47, co47, eo47⟩ := Kd.R_slice HO234.out; subst eo47) | (go_at_call 13; (with_reducible refine (entry_Members.calls k2 255 t235 _ A36.out).mono ?_); rintro e w48 ⟨v236, rfl, ho0, hb⟩; have n0_ := Aside0.mk (Kd.R_below (by (with_reducible repeat (first | apply Kd.R_alloc | apply Kd.R_drewN | apply Kd.R_drew)); exact HO_24.out) hb); have n1_ := Aside0.mk (Kd.R_elder' (by (with_reducible repeat (first | apply Kd.R_alloc | apply Kd.R_drewN | apply Kd.R_drew)); exact HO234.out) (Kd.R_base ho0) hb); have n2_ := Aside0.mk (Kd.R_lower (Kd.R_new' ho0 (Kd.R_lt (by (with_reducible repeat (first | apply Kd.R_alloc | apply Kd.R_drewN | apply Kd.R_drew)); exact HO234.out))) (below_size (by repeat (first | (with_reducible first | exact HB.out | apply below_alloc | apply pw_below_drewN | apply below_drew1 | refine below_set ?_ GE227.out) | exact HB.out)))); have n3_ := Aside0.mk (blk_below (g := gb227) (o := .cells #[.int .u64 t213, .int .u64 t214, .int .u8 t215, .int .u8 t216, .int .u8 t217, .int .u8 t218, .int .u8 t219, .int .u8 t220, .int .u8 t221, .int .u8 t222, .int .u8 t223, .int .u8 t224, .string t225] 27 (0, 0)) (by (with_reducible repeat (first | refine blk_drewN ?_ _ | refine blk_drew ?_ | refine blk_alloc ?_ _)); exact BK227.out) hb); have n4_ := Aside0.mk (below_step (by repeat (first | (with_reducible first | exact HB.out | apply below_alloc | apply pw_below_drewN | apply below_drew1 | refine below_set ?_ GE227.out) | exact HB.out)) hb); clear HO_24; clear HO234; clear BK227; clear HB; have HO_24 := n0_; have HO234 := n1_; have HO237 := n2_; have BK227 := n3_; have HB := n4_; clear n0_ n1_ n2_ n3_ n4_; (try clear hb); (try clear hb2); (try clear hk); (try clear hi); (try clear ho0); obtain ⟨Ao49, co49, eo49⟩ := Kd.R_slice HO237.out; subst eo49) | (go_at_call 14; (with_reducible refine (wapentakelaw04_awake.calls k2  t238 _ A38.out).mono ?_); rintro e w50 ⟨rfl, hb⟩; have n0_ := Aside0.mk (Kd.R_below (by (with_reducible repeat (first | apply Kd.R_alloc | apply Kd.R_drewN | apply Kd.R_drew)); exact HO_24.out) hb); have n1_ := Aside0.mk (Kd.R_below (by (with_reducible repeat (first | apply Kd.R_alloc | apply Kd.R_drewN | apply Kd.R_drew)); exact HO234.out) hb); have n2_ := Aside0.mk (Kd.R_below (by (with_reducible repeat (first | apply Kd.R_alloc | apply Kd.R_drewN | apply Kd.R_drew)); exact HO237.out) hb); have n3_ := Aside0.mk (blk_below (g := gb227) (o := .cells #[.int .u64 t213, .int .u64 t214, .int .u8 t215, .int .u8 t216, .int .u8 t217, .int .u8 t218, .int .u8 t219, .int .u8 t220, .int .u8 t221, .int .u8 t222, .int .u8 t223, .int .u8 t224, .string t225] 27 (0, 0)) (by (with_reducible repeat (first | refine blk_drewN ?_ _ | refine blk_drew ?_ | refine blk_alloc ?_ _)); exact BK227.out) hb); have n4_ := Aside0.mk (below_step (by repeat (first | (with_reducible first | exact HB.out | apply below_alloc | apply pw_below_drewN | apply below_drew1 | refine below_set ?_ GE227.out) | exact HB.out)) hb); clear HO_24; clear HO234; clear HO237; clear BK227; clear HB; have HO_24 := n0_; have HO234 := n1_; have HO237 := n2_; have BK227 := n3_; have HB := n4_; clear n0_ n1_ n2_ n3_ n4_; (try clear hb); (try clear hb2); (try clear hk); (try clear hi)))
                            go_ret
                            exact ⟨by first | rfl | (simp [errW_none, errW_some] <;> rfl) | (simp [*, errW_none, errW_some] <;> rfl), by repeat (first | (with_reducible first | exact HB.out | apply below_alloc | apply pw_below_drewN | apply below_drew1 | refine below_set ?_ GE227.out) | exact HB.out)⟩
                          · rw [if_neg c37] at H
                            have c37b0 : ((t235.length : Int) == 5) = false := beq_eq_false_iff_ne.mpr c37
                            have c37b1 : ((t235.length : Int) != 5) = true := bne_iff_ne.mpr c37
                            exact absurd (Option.some.inj H) (by rw [hr_]; decide)
                        · rw [if_neg c35] at H
                          have c35b0 : ((t232.length : Int) == 0) = false := beq_eq_false_iff_ne.mpr c35
                          have c35b1 : ((t232.length : Int) != 0) = true := bne_iff_ne.mpr c35
                          have c35b2 : ¬ (t232 = []) := fun h_ => c35 (by rw [h_]; rfl)
                          exact absurd (Option.some.inj H) (by rw [hr_]; decide)
                      · rw [if_neg c33] at H
                        have c33b0 : (t231 == 1) = false := beq_eq_false_iff_ne.mpr c33
                        have c33b1 : (t231 != 1) = true := bne_iff_ne.mpr c33
                        exact absurd (Option.some.inj H) (by rw [hr_]; decide)
                    · rw [if_neg c31] at H
                      have c31b0 : (t230 == 1) = false := beq_eq_false_iff_ne.mpr c31
                      have c31b1 : (t230 != 1) = true := bne_iff_ne.mpr c31
                      exact absurd (Option.some.inj H) (by rw [hr_]; decide)
                  · rw [if_neg c29] at H
                    have c29b0 : (t229 == 3) = false := beq_eq_false_iff_ne.mpr c29
                    have c29b1 : (t229 != 3) = true := bne_iff_ne.mpr c29
                    exact absurd (Option.some.inj H) (by rw [hr_]; decide)
                · rw [if_neg c27] at H
                  have c27b0 : (t228 == 2) = false := beq_eq_false_iff_ne.mpr c27
                  have c27b1 : (t228 != 2) = true := bne_iff_ne.mpr c27
                  exact absurd (Option.some.inj H) (by rw [hr_]; decide)

/-- THE ONE PURE STATEMENT of wapentakelaw04_EntryKnown: yours. -/
def wapentakelaw04_EntryKnown.Pure : Prop := ∃ k, wapentakelaw04_EntryKnown.f k  = some true
theorem wapentakelaw04_EntryKnown.walk (P : wapentakelaw04_EntryKnown.Pure)  (w : World)  :
    Calls Try.prog 3 #[] w fun e w' => e = .returned (.bool true) ∧ Below w.heap.size w w' := by
  obtain ⟨k, h⟩ := P  
  refine (wapentakelaw04_EntryKnown.calls k  true w h rfl).mono ?_
  rintro e w' ⟨rfl, hd⟩
  exact ⟨rfl, hd⟩

/-! ### wapentakeref04_plain: function 26, by hand -/
-- HAND making=1
def wapentakeref04_plain.f (a0_0 : Int) (a0_1 : Int) (a0_2 : Int) (a0_3 : Int) (a0_4 : Int) (a0_5 : Int) (a0_6 : Int) (a0_7 : Int) (a0_8 : Int) (a0_9 : Int) (a0_10 : Int) (a0_11 : Int) (a0_12 : ByteArray) : Option Bool :=
  some (decide (a0_4 = 0 ∧ a0_5 = 0 ∧ a0_6 = 0 ∧ a0_7 = 0 ∧ a0_8 = 0 ∧ a0_9 = 0 ∧ a0_10 = 0 ∧ a0_11 = 0 ∧ a0_3 = 0))
set_option maxHeartbeats 8000000 in
set_option maxRecDepth 100000 in
theorem wapentakeref04_plain.calls (a0_0 : Int) (a0_1 : Int) (a0_2 : Int) (a0_3 : Int) (a0_4 : Int) (a0_5 : Int) (a0_6 : Int) (a0_7 : Int) (a0_8 : Int) (a0_9 : Int) (a0_10 : Int) (a0_11 : Int) (a0_12 : ByteArray) (r : Bool) (w : World) (h : wapentakeref04_plain.f a0_0 a0_1 a0_2 a0_3 a0_4 a0_5 a0_6 a0_7 a0_8 a0_9 a0_10 a0_11 a0_12 = some r) :
    Calls Try.prog 26 #[.agg #[.int .u64 a0_0, .int .u64 a0_1, .int .u8 a0_2, .int .u8 a0_3, .int .u8 a0_4, .int .u8 a0_5, .int .u8 a0_6, .int .u8 a0_7, .int .u8 a0_8, .int .u8 a0_9, .int .u8 a0_10, .int .u8 a0_11, .string a0_12]] w fun e w' => e = .returned (.bool r) ∧ Below w.heap.size w w' := by
  obtain rfl := Option.some.inj h
  clear h
  have hu := Try.underlying27
  go_enter Try.func26, Try.ntmps26
  go_wp2
  have HC := Aside0.mk (show (w.alloc (.cells #[.int .u64 a0_0, .int .u64 a0_1, .int .u8 a0_2, .int .u8 a0_3, .int .u8 a0_4, .int .u8 a0_5, .int .u8 a0_6, .int .u8 a0_7, .int .u8 a0_8, .int .u8 a0_9, .int .u8 a0_10, .int .u8 a0_11, .string a0_12] 27)).heap[w.heap.size]? = some (.cells #[.int .u64 a0_0, .int .u64 a0_1, .int .u8 a0_2, .int .u8 a0_3, .int .u8 a0_4, .int .u8 a0_5, .int .u8 a0_6, .int .u8 a0_7, .int .u8 a0_8, .int .u8 a0_9, .int .u8 a0_10, .int .u8 a0_11, .string a0_12] 27 (0, 0)) from heap_alloc_new _ _)
  have HB := Aside0.mk (below_alloc (Below.refl w.heap.size w) (.cells #[.int .u64 a0_0, .int .u64 a0_1, .int .u8 a0_2, .int .u8 a0_3, .int .u8 a0_4, .int .u8 a0_5, .int .u8 a0_6, .int .u8 a0_7, .int .u8 a0_8, .int .u8 a0_9, .int .u8 a0_10, .int .u8 a0_11, .string a0_12] 27))
  go_loopg [3] 9 (fun kq v3 w' => ∃ i : Nat, i + kq = 9 ∧ i ≤ 8 ∧ v3 = .int .i64 i ∧ (∀ j, j < i → [a0_4, a0_5, a0_6, a0_7, a0_8, a0_9, a0_10, a0_11].getD j 0 = 0) ∧ Aside0 (w'.heap[w.heap.size]? = some (.cells #[.int .u64 a0_0, .int .u64 a0_1, .int .u8 a0_2, .int .u8 a0_3, .int .u8 a0_4, .int .u8 a0_5, .int .u8 a0_6, .int .u8 a0_7, .int .u8 a0_8, .int .u8 a0_9, .int .u8 a0_10, .int .u8 a0_11, .string a0_12] 27 (0, 0))) ∧ Aside0 (Below w.heap.size w w'))
  case atStart => exact ⟨0, rfl, by omega, rfl, fun j h => absurd h (by omega), HC, HB⟩
  case round =>
    clear HC HB
    obtain ⟨i, hk, hi, rfl, hz, HC, HB⟩ := hrel
    obtain ⟨k2, rfl⟩ : ∃ m, gk = m + 1 := ⟨gk - 1, by omega⟩
    have hc3 : wr.cell? ⟨w.heap.size, 3, none⟩ = some (.int .u8 a0_3) := (blk_cell HC.out 3).trans rfl
    have hc4 : wr.cell? ⟨w.heap.size, 4, none⟩ = some (.int .u8 a0_4) := (blk_cell HC.out 4).trans rfl
    have hc5 : wr.cell? ⟨w.heap.size, 5, none⟩ = some (.int .u8 a0_5) := (blk_cell HC.out 5).trans rfl
    have hc6 : wr.cell? ⟨w.heap.size, 6, none⟩ = some (.int .u8 a0_6) := (blk_cell HC.out 6).trans rfl
    have hc7 : wr.cell? ⟨w.heap.size, 7, none⟩ = some (.int .u8 a0_7) := (blk_cell HC.out 7).trans rfl
    have hc8 : wr.cell? ⟨w.heap.size, 8, none⟩ = some (.int .u8 a0_8) := (blk_cell HC.out 8).trans rfl
    have hc9 : wr.cell? ⟨w.heap.size, 9, none⟩ = some (.int .u8 a0_9) := (blk_cell HC.out 9).trans rfl
    have hc10 : wr.cell? ⟨w.heap.size, 10, none⟩ = some (.int .u8 a0_10) := (blk_cell HC.out 10).trans rfl
    have hc11 : wr.cell? ⟨w.heap.size, 11, none⟩ = some (.int .u8 a0_11) := (blk_cell HC.out 11).trans rfl
    have hcase : i = 0 ∨ i = 1 ∨ i = 2 ∨ i = 3 ∨ i = 4 ∨ i = 5 ∨ i = 6 ∨ i = 7 ∨ i = 8 := by omega
    rcases hcase with rfl | rfl | rfl | rfl | rfl | rfl | rfl | rfl | rfl
    · by_cases hq : a0_4 = 0
      · have hq1 : (a0_4 != 0) = false := by simpa using hq
        go_wp2
        go_roundg k2
        case measure => omega
        case rel => exact ⟨1, by omega, by omega, by go_num, fun j hj => by (have hj' : j < 0 ∨ j = 0 := by omega); rcases hj' with h | rfl; exact hz j h; exact hq, HC, HB⟩
      · have hq1 : (a0_4 != 0) = true := by simpa using hq
        go_wp2
        go_ret
        exact ⟨congrArg (fun b => Ending.returned (Value.bool b)) (decide_eq_false (fun h => hq (by simp [h]))).symm, HB.out⟩
    · by_cases hq : a0_5 = 0
      · have hq1 : (a0_5 != 0) = false := by simpa using hq
        go_wp2
        go_roundg k2
        case measure => omega
        case rel => exact ⟨2, by omega, by omega, by go_num, fun j hj => by (have hj' : j < 1 ∨ j = 1 := by omega); rcases hj' with h | rfl; exact hz j h; exact hq, HC, HB⟩
      · have hq1 : (a0_5 != 0) = true := by simpa using hq
        go_wp2
        go_ret
        exact ⟨congrArg (fun b => Ending.returned (Value.bool b)) (decide_eq_false (fun h => hq (by simp [h]))).symm, HB.out⟩
    · by_cases hq : a0_6 = 0
      · have hq1 : (a0_6 != 0) = false := by simpa using hq
        go_wp2
        go_roundg k2
        case measure => omega
        case rel => exact ⟨3, by omega, by omega, by go_num, fun j hj => by (have hj' : j < 2 ∨ j = 2 := by omega); rcases hj' with h | rfl; exact hz j h; exact hq, HC, HB⟩
      · have hq1 : (a0_6 != 0) = true := by simpa using hq
        go_wp2
        go_ret
        exact ⟨congrArg (fun b => Ending.returned (Value.bool b)) (decide_eq_false (fun h => hq (by simp [h]))).symm, HB.out⟩
    · by_cases hq : a0_7 = 0
      · have hq1 : (a0_7 != 0) = false := by simpa using hq
        go_wp2
        go_roundg k2
        case measure => omega
        case rel => exact ⟨4, by omega, by omega, by go_num, fun j hj => by (have hj' : j < 3 ∨ j = 3 := by omega); rcases hj' with h | rfl; exact hz j h; exact hq, HC, HB⟩
      · have hq1 : (a0_7 != 0) = true := by simpa using hq
        go_wp2
        go_ret
        exact ⟨congrArg (fun b => Ending.returned (Value.bool b)) (decide_eq_false (fun h => hq (by simp [h]))).symm, HB.out⟩
    · by_cases hq : a0_8 = 0
      · have hq1 : (a0_8 != 0) = false := by simpa using hq
        go_wp2
        go_roundg k2
        case measure => omega
        case rel => exact ⟨5, by omega, by omega, by go_num, fun j hj => by (have hj' : j < 4 ∨ j = 4 := by omega); rcases hj' with h | rfl; exact hz j h; exact hq, HC, HB⟩
      · have hq1 : (a0_8 != 0) = true := by simpa using hq
        go_wp2
        go_ret
        exact ⟨congrArg (fun b => Ending.returned (Value.bool b)) (decide_eq_false (fun h => hq (by simp [h]))).symm, HB.out⟩
    · by_cases hq : a0_9 = 0
      · have hq1 : (a0_9 != 0) = false := by simpa using hq
        go_wp2
        go_roundg k2
        case measure => omega
        case rel => exact ⟨6, by omega, by omega, by go_num, fun j hj => by (have hj' : j < 5 ∨ j = 5 := by omega); rcases hj' with h | rfl; exact hz j h; exact hq, HC, HB⟩
      · have hq1 : (a0_9 != 0) = true := by simpa using hq
        go_wp2
        go_ret
        exact ⟨congrArg (fun b => Ending.returned (Value.bool b)) (decide_eq_false (fun h => hq (by simp [h]))).symm, HB.out⟩
    · by_cases hq : a0_10 = 0
      · have hq1 : (a0_10 != 0) = false := by simpa using hq
        go_wp2
        go_roundg k2
        case measure => omega
        case rel => exact ⟨7, by omega, by omega, by go_num, fun j hj => by (have hj' : j < 6 ∨ j = 6 := by omega); rcases hj' with h | rfl; exact hz j h; exact hq, HC, HB⟩
      · have hq1 : (a0_10 != 0) = true := by simpa using hq
        go_wp2
        go_ret
        exact ⟨congrArg (fun b => Ending.returned (Value.bool b)) (decide_eq_false (fun h => hq (by simp [h]))).symm, HB.out⟩
    · by_cases hq : a0_11 = 0
      · have hq1 : (a0_11 != 0) = false := by simpa using hq
        go_wp2
        go_roundg k2
        case measure => omega
        case rel => exact ⟨8, by omega, by omega, by go_num, fun j hj => by (have hj' : j < 7 ∨ j = 7 := by omega); rcases hj' with h | rfl; exact hz j h; exact hq, HC, HB⟩
      · have hq1 : (a0_11 != 0) = true := by simpa using hq
        go_wp2
        go_ret
        exact ⟨congrArg (fun b => Ending.returned (Value.bool b)) (decide_eq_false (fun h => hq (by simp [h]))).symm, HB.out⟩
    · go_wp2
      have z0 : a0_4 = 0 := hz 0 (by omega)
      have z1 : a0_5 = 0 := hz 1 (by omega)
      have z2 : a0_6 = 0 := hz 2 (by omega)
      have z3 : a0_7 = 0 := hz 3 (by omega)
      have z4 : a0_8 = 0 := hz 4 (by omega)
      have z5 : a0_9 = 0 := hz 5 (by omega)
      have z6 : a0_10 = 0 := hz 6 (by omega)
      have z7 : a0_11 = 0 := hz 7 (by omega)
      go_ret
      exact ⟨congrArg (fun b => Ending.returned (Value.bool b)) (by rw [z0, z1, z2, z3, z4, z5, z6, z7]; simp; try rfl), HB.out⟩

end Go.Proofs.Ytimfgflcflhfcaa.P
