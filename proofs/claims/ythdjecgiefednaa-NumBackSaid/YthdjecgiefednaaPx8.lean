-- Written by wip/tools/myprint.sh out of the translation, over the kit's print with a patch. Not trusted: Lean checks it.
import Derived.Test.YthdjecgiefednaaPx0
import Derived.Test.YthdjecgiefednaaPx1
import Derived.Test.YthdjecgiefednaaPx2
import Derived.Test.YthdjecgiefednaaPx3
import Derived.Test.YthdjecgiefednaaPx5
namespace Go.Proofs.Ythdjecgiefednaa.P
open Go.RowKit Go.Proofs.YthdjecgiefednaaW.PrintWords Go.Proofs.YthdjecgiefednaaW.PrintLast Go.Proofs.YthdjecgiefednaaW.PrintMore Go.Proofs.Ythdjecgiefednaa.Num
attribute [local go_sem] max2_int min2_int max_two min_two max_three min_three max_four min_four   -- for this text's walks alone
set_option linter.unusedVariables false
set_option linter.unusedSimpArgs false

def bq_8_ (n m : Nat) : Array Bool := ((List.range n).map fun i => m.testBit i).toArray
theorem zA8_ {α : Type} (l : List α) (i : Nat) (a : α) : l.toArray.setIfInBounds i a = (l.set i a).toArray := List.setIfInBounds_toArray ..
theorem zB8_ {α : Type} (a b : α) (l : List α) : (a :: l).set 0 b = b :: l := List.set_cons_zero ..
theorem zC8_ {α : Type} (a b : α) (l : List α) (n : Nat) : (a :: l).set (n + 1) b = a :: l.set n b := List.set_cons_succ ..
/-! ### wapentakelaw01_NumBack: function 5 -/
mutual
def wapentakelaw01_NumBack.j0 : Nat → List Int → List ByteArray → ByteArray → Bool → Option (Bool)
 | 0, _, _, _, _ => none
 | k + 1, x0, x1, x2, x26 => if x26 = true then ((wapentakelaw01_awake.f k).bind fun t164 => (some t164)) else (if (x2.size : Int) > 20000 then (if 0 ≤ 20000 then (if 20000 ≤ (x2.size : Int) then (wapentakelaw01_NumBack.j1 k x0 x1 (x2.extract 0 20000)) else (none)) else (none)) else (wapentakelaw01_NumBack.j1 k x0 x1 x2))
def wapentakelaw01_NumBack.j1 : Nat → List Int → List ByteArray → ByteArray → Option (Bool)
 | 0, _, _, _ => none
 | k + 1, x0, x1, x2 => (num_V.f x0).bind fun t165 => ((num_S.f k x1).bind fun t166 => (if t165.size + t166.size ≤ 9223372036854775807 then (if (t165 ++ t166).size + x2.size ≤ 9223372036854775807 then (wapentakelaw01_NumBack.l0 k x0 x1 x2 ((t165 ++ t166) ++ x2) 0) else (none)) else (none)))
def wapentakelaw01_NumBack.l0 : Nat → List Int → List ByteArray → ByteArray → ByteArray → Int → Option (Bool)
 | 0, _, _, _, _, _ => none
 | k + 1, x0, x1, x2, x7, x8 => if x8 < (x0.length : Int) then ((num_ReadV.f k x7).bind fun bt167 => (if bt167.2.2 = true then (if 0 ≤ x8 then (if bt167.1 = (rd x0 x8) then (if bt167.2.1 < 1 then (some false) else (if bt167.2.1 > (x7.size : Int) then (some false) else (if 0 ≤ bt167.2.1 then (if bt167.2.1 ≤ (x7.size : Int) then (wapentakelaw01_NumBack.l0 k x0 x1 x2 (x7.extract (bt167.2.1 : Int).toNat x7.size) (wrap64 (x8 + 1))) else (none)) else (none)))) else (some false)) else (none)) else (some false))) else (wapentakelaw01_NumBack.l1 k x1 x2 x7 0)
def wapentakelaw01_NumBack.l1 : Nat → List ByteArray → ByteArray → ByteArray → Int → Option (Bool)
 | 0, _, _, _, _ => none
 | k + 1, x1, x2, x7, x12 => if x12 < (x1.length : Int) then ((num_ReadS.f k x7).bind fun bt171 => (if bt171.2.2 = true then (if 0 ≤ x12 then (if bt171.1.toList = (rdOf ByteArray.empty x1 x12).toList then (if bt171.2.1 ≤ (bt171.1.size : Int) then (some false) else (if bt171.2.1 > (x7.size : Int) then (some false) else (if 0 ≤ bt171.2.1 then (if bt171.2.1 ≤ (x7.size : Int) then (wapentakelaw01_NumBack.l1 k x1 x2 (x7.extract (bt171.2.1 : Int).toNat x7.size) (wrap64 (x12 + 1))) else (none)) else (none)))) else (some false)) else (none)) else (some false))) else (if x7.toList = x2.toList then ((num_ReadV.f k x2).bind fun bt175 => (if bt175.2.2 = true then (if bt175.2.1 < 1 then (some false) else (if bt175.2.1 > (x2.size : Int) then (some false) else ((num_V.f (([bt175.1] : List Int))).bind fun t181 => (if 0 ≤ bt175.2.1 then (if bt175.2.1 ≤ (x2.size : Int) then (if t181.toList = (x2.extract 0 (bt175.2.1 : Int).toNat).toList then ((num_ReadS.f k x2).bind fun bt182 => (if bt182.2.2 = true then (if bt182.2.1 ≤ (x2.size : Int) then ((num_S.f k (([bt182.1] : List ByteArray))).bind fun t188 => (if 0 ≤ bt182.2.1 then (if t188.toList = (x2.extract 0 (bt182.2.1 : Int).toNat).toList then ((wapentakelaw01_awake.f k).bind fun t189 => (some t189)) else (some false)) else (none))) else (some false)) else (if bt182.1.toList = ([] : List UInt8) then (if bt182.2.1 = 0 then ((wapentakelaw01_awake.f k).bind fun t190 => (some t190)) else (some false)) else (some false)))) else (some false)) else (none)) else (none))))) else (if bt175.1 = 0 then (if bt175.2.1 = 0 then ((num_ReadS.f k x2).bind fun bt191 => (if bt191.2.2 = true then (if bt191.2.1 ≤ (x2.size : Int) then ((num_S.f k (([bt191.1] : List ByteArray))).bind fun t197 => (if 0 ≤ bt191.2.1 then (if t197.toList = (x2.extract 0 (bt191.2.1 : Int).toNat).toList then ((wapentakelaw01_awake.f k).bind fun t198 => (some t198)) else (some false)) else (none))) else (some false)) else (if bt191.1.toList = ([] : List UInt8) then (if bt191.2.1 = 0 then ((wapentakelaw01_awake.f k).bind fun t199 => (some t199)) else (some false)) else (some false)))) else (some false)) else (some false)))) else (some false))
end
def wapentakelaw01_NumBack.f (k : Nat) (l0 : List Int) (l1 : List ByteArray) (a2 : ByteArray) : Option (Bool) := if (l0.length : Int) > 120 then (wapentakelaw01_NumBack.j0 k l0 l1 a2 true) else ((wapentakelaw01_Great.f k l1).bind fun t163 => (wapentakelaw01_NumBack.j0 k l0 l1 a2 t163))
theorem wapentakelaw01_NumBack.mono_l : ∀ k, (∀ y0 y1 y2 y3, LeO (wapentakelaw01_NumBack.j0 k y0 y1 y2 y3) (wapentakelaw01_NumBack.j0 (k + 1) y0 y1 y2 y3)) ∧ (∀ y0 y1 y2, LeO (wapentakelaw01_NumBack.j1 k y0 y1 y2) (wapentakelaw01_NumBack.j1 (k + 1) y0 y1 y2)) ∧ (∀ y0 y1 y2 y3 y4, LeO (wapentakelaw01_NumBack.l0 k y0 y1 y2 y3 y4) (wapentakelaw01_NumBack.l0 (k + 1) y0 y1 y2 y3 y4)) ∧ (∀ y0 y1 y2 y3, LeO (wapentakelaw01_NumBack.l1 k y0 y1 y2 y3) (wapentakelaw01_NumBack.l1 (k + 1) y0 y1 y2 y3))
 | 0 => ⟨fun _ _ _ _ r h => by simp [wapentakelaw01_NumBack.j0] at h, fun _ _ _ r h => by simp [wapentakelaw01_NumBack.j1] at h, fun _ _ _ _ _ r h => by simp [wapentakelaw01_NumBack.l0] at h, fun _ _ _ _ r h => by simp [wapentakelaw01_NumBack.l1] at h⟩
 | k + 1 => by
  obtain ⟨ih0, ih1, ih2, ih3⟩ := wapentakelaw01_NumBack.mono_l k
  refine ⟨?_, ?_, ?_, ?_⟩
  ·intro y0 y1 y2 y3
   unfold wapentakelaw01_NumBack.j0
   repeat' first
   | (with_reducible exact ih0 _ _ _ _)
   | (with_reducible exact ih1 _ _ _)
   | (with_reducible exact ih2 _ _ _ _ _)
   | (with_reducible exact ih3 _ _ _ _)
   | (with_reducible exact num_ReadS.mono _ _)
   | (with_reducible exact num_ReadV.mono _ _)
   | (with_reducible exact num_S.mono _ _)
   | (with_reducible exact wapentakelaw01_Great.mono _ _)
   | (with_reducible exact wapentakelaw01_awake.mono _)
   | (with_reducible exact LeO.refl _)
   | (with_reducible exact LeO.none _)
   | (with_reducible refine LeO.ite ?_ ?_)
   | (with_reducible refine LeO.bind ?_ (fun _ => ?_))
   | exact ih0 _ _ _ _
   | exact ih1 _ _ _
   | exact ih2 _ _ _ _ _
   | exact ih3 _ _ _ _
   | exact num_ReadS.mono _ _
   | exact num_ReadV.mono _ _
   | exact num_S.mono _ _
   | exact wapentakelaw01_Great.mono _ _
   | exact wapentakelaw01_awake.mono _
   | exact LeO.none _
   | refine LeO.ite ?_ ?_
   | refine LeO.bind ?_ (fun _ => ?_)
  ·intro y0 y1 y2
   unfold wapentakelaw01_NumBack.j1
   repeat' first
   | (with_reducible exact ih0 _ _ _ _)
   | (with_reducible exact ih1 _ _ _)
   | (with_reducible exact ih2 _ _ _ _ _)
   | (with_reducible exact ih3 _ _ _ _)
   | (with_reducible exact num_ReadS.mono _ _)
   | (with_reducible exact num_ReadV.mono _ _)
   | (with_reducible exact num_S.mono _ _)
   | (with_reducible exact wapentakelaw01_Great.mono _ _)
   | (with_reducible exact wapentakelaw01_awake.mono _)
   | (with_reducible exact LeO.refl _)
   | (with_reducible exact LeO.none _)
   | (with_reducible refine LeO.ite ?_ ?_)
   | (with_reducible refine LeO.bind ?_ (fun _ => ?_))
   | exact ih0 _ _ _ _
   | exact ih1 _ _ _
   | exact ih2 _ _ _ _ _
   | exact ih3 _ _ _ _
   | exact num_ReadS.mono _ _
   | exact num_ReadV.mono _ _
   | exact num_S.mono _ _
   | exact wapentakelaw01_Great.mono _ _
   | exact wapentakelaw01_awake.mono _
   | exact LeO.none _
   | refine LeO.ite ?_ ?_
   | refine LeO.bind ?_ (fun _ => ?_)
  ·intro y0 y1 y2 y3 y4
   unfold wapentakelaw01_NumBack.l0
   repeat' first
   | (with_reducible exact ih0 _ _ _ _)
   | (with_reducible exact ih1 _ _ _)
   | (with_reducible exact ih2 _ _ _ _ _)
   | (with_reducible exact ih3 _ _ _ _)
   | (with_reducible exact num_ReadS.mono _ _)
   | (with_reducible exact num_ReadV.mono _ _)
   | (with_reducible exact num_S.mono _ _)
   | (with_reducible exact wapentakelaw01_Great.mono _ _)
   | (with_reducible exact wapentakelaw01_awake.mono _)
   | (with_reducible exact LeO.refl _)
   | (with_reducible exact LeO.none _)
   | (with_reducible refine LeO.ite ?_ ?_)
   | (with_reducible refine LeO.bind ?_ (fun _ => ?_))
   | exact ih0 _ _ _ _
   | exact ih1 _ _ _
   | exact ih2 _ _ _ _ _
   | exact ih3 _ _ _ _
   | exact num_ReadS.mono _ _
   | exact num_ReadV.mono _ _
   | exact num_S.mono _ _
   | exact wapentakelaw01_Great.mono _ _
   | exact wapentakelaw01_awake.mono _
   | exact LeO.none _
   | refine LeO.ite ?_ ?_
   | refine LeO.bind ?_ (fun _ => ?_)
  ·intro y0 y1 y2 y3
   unfold wapentakelaw01_NumBack.l1
   repeat' first
   | (with_reducible exact ih0 _ _ _ _)
   | (with_reducible exact ih1 _ _ _)
   | (with_reducible exact ih2 _ _ _ _ _)
   | (with_reducible exact ih3 _ _ _ _)
   | (with_reducible exact num_ReadS.mono _ _)
   | (with_reducible exact num_ReadV.mono _ _)
   | (with_reducible exact num_S.mono _ _)
   | (with_reducible exact wapentakelaw01_Great.mono _ _)
   | (with_reducible exact wapentakelaw01_awake.mono _)
   | (with_reducible exact LeO.refl _)
   | (with_reducible exact LeO.none _)
   | (with_reducible refine LeO.ite ?_ ?_)
   | (with_reducible refine LeO.bind ?_ (fun _ => ?_))
   | exact ih0 _ _ _ _
   | exact ih1 _ _ _
   | exact ih2 _ _ _ _ _
   | exact ih3 _ _ _ _
   | exact num_ReadS.mono _ _
   | exact num_ReadV.mono _ _
   | exact num_S.mono _ _
   | exact wapentakelaw01_Great.mono _ _
   | exact wapentakelaw01_awake.mono _
   | exact LeO.none _
   | refine LeO.ite ?_ ?_
   | refine LeO.bind ?_ (fun _ => ?_)
theorem wapentakelaw01_NumBack.mono : ∀ a0 a1 a2 k, LeO (wapentakelaw01_NumBack.f k a0 a1 a2) (wapentakelaw01_NumBack.f (k + 1) a0 a1 a2) := by
 intro a0 a1 a2 k
 obtain ⟨ih0, ih1, ih2, ih3⟩ := wapentakelaw01_NumBack.mono_l k
 unfold wapentakelaw01_NumBack.f
 repeat' first
   | (with_reducible exact ih0 _ _ _ _)
   | (with_reducible exact ih1 _ _ _)
   | (with_reducible exact ih2 _ _ _ _ _)
   | (with_reducible exact ih3 _ _ _ _)
   | (with_reducible exact num_ReadS.mono _ _)
   | (with_reducible exact num_ReadV.mono _ _)
   | (with_reducible exact num_S.mono _ _)
   | (with_reducible exact wapentakelaw01_Great.mono _ _)
   | (with_reducible exact wapentakelaw01_awake.mono _)
   | (with_reducible exact LeO.refl _)
   | (with_reducible exact LeO.none _)
   | (with_reducible refine LeO.ite ?_ ?_)
   | (with_reducible refine LeO.bind ?_ (fun _ => ?_))
   | exact ih0 _ _ _ _
   | exact ih1 _ _ _
   | exact ih2 _ _ _ _ _
   | exact ih3 _ _ _ _
   | exact num_ReadS.mono _ _
   | exact num_ReadV.mono _ _
   | exact num_S.mono _ _
   | exact wapentakelaw01_Great.mono _ _
   | exact wapentakelaw01_awake.mono _
   | exact LeO.none _
   | refine LeO.ite ?_ ?_
   | refine LeO.bind ?_ (fun _ => ?_)
def wapentakelaw01_NumBack.T23 : Bool × List (List Nat × List Nat) := (true, [([], []), ([0], [0]), ([1], [1]), ([2, 1], [1, 2]), ([3, 1, 1], [1, 3]), ([4], [4]), ([4], [4]), ([6, 4], [4, 6]), ([5, 7, 4], [4, 5, 7]), ([4, 8, 1], [1, 4, 8]), ([9, 4, 1], [1, 9]), ([10], [10]), ([11, 10], [10, 11]), ([12, 10, 10], [10, 12]), ([10], [10]), ([10], [10]), ([14, 15, 10], [10, 14, 15]), ([13, 16, 10], [10, 13, 16]), ([10, 17, 1], [1, 10, 17]), ([1, 18], [1, 18]), ([19, 13], [19]), ([20], [20]), ([21, 20], [20, 21]), ([22, 20, 20], [20, 22]), ([23], [23]), ([24, 23], [23, 24]), ([25, 23, 23], [23, 25]), ([26], [26]), ([27, 26], [26, 27]), ([26, 28, 23], [23, 26, 28]), ([23, 29, 20], [20, 23, 29]), ([20, 30], [20, 30])])
def wapentakelaw01_NumBack.B23 : List Nat := [0, 1, 3, 7, 15, 31, 31, 95, 255, 511, 1023, 2047, 4095, 8191, 2047, 2047, 51199, 131071, 262143, 524287, 1048575, 2097151, 4194303, 8388607, 16777215, 33554431, 67108863, 134217727, 268435455, 536870911, 1073741823, 2147483647]
theorem wapentakelaw01_NumBack.tab23 : rtab .any (opsOf Try.f5 23) = wapentakelaw01_NumBack.T23 := by kernel_rfl
theorem wapentakelaw01_NumBack.bits23 : waitsOk wapentakelaw01_NumBack.T23.2 wapentakelaw01_NumBack.B23 = true := by kernel_rfl
def wapentakelaw01_NumBack.T26 : Bool × List (List Nat × List Nat) := (true, [([], []), ([0], [0]), ([1], [1]), ([2], [2]), ([3, 2], [2, 3]), ([2, 4], [2, 4]), ([5, 2], [5]), ([6], [6]), ([7, 6], [6, 7]), ([6, 8], [6, 8]), ([9, 6], [9]), ([10], [10]), ([11, 10, 10], [10, 11]), ([12], [12]), ([12], [12]), ([14, 12], [12, 14]), ([13, 15, 12], [12, 13, 15]), ([12, 16, 10], [10, 12, 16]), ([17, 12, 10], [10, 17]), ([18], [18]), ([19, 18], [18, 19]), ([20, 18, 18], [18, 20]), ([18], [18]), ([18], [18]), ([22, 23, 18], [18, 22, 23]), ([21, 24, 18], [18, 21, 24]), ([18, 25, 10], [10, 18, 25]), ([10, 26], [10, 26]), ([27, 21], [27]), ([28, 28], [28]), ([28, 29], [28, 29]), ([30, 29, 0, 1, 2, 3, 4, 5, 6, 7, 8, 9, 10, 11, 12, 13, 14, 15, 16, 17, 18, 19, 20, 21, 22, 23, 24, 25, 26, 27, 28, 29, 30], [30])])
def wapentakelaw01_NumBack.B26 : List Nat := [0, 1, 3, 7, 15, 31, 63, 127, 255, 511, 1023, 2047, 4095, 8191, 8191, 24575, 65535, 131071, 262143, 524287, 1048575, 2097151, 524287, 524287, 13107199, 33554431, 67108863, 134217727, 268435455, 536870911, 1073741823, 2147483647]
theorem wapentakelaw01_NumBack.tab26 : rtab .any (opsOf Try.f5 26) = wapentakelaw01_NumBack.T26 := by kernel_rfl
theorem wapentakelaw01_NumBack.bits26 : waitsOk wapentakelaw01_NumBack.T26.2 wapentakelaw01_NumBack.B26 = true := by kernel_rfl
set_option maxHeartbeats 8000000 in
set_option maxRecDepth 100000 in
theorem wapentakelaw01_NumBack.calls (k : Nat) (A0 : Option Addr) (c0 : Nat) (l0 : List Int) (A1 : Option Addr) (c1 : Nat) (l1 : List ByteArray) (a2 : ByteArray) (r : Bool) (w : World) (hr0 : Kd.C (Kd.int .u64) w A0 l0.length l0) (hc0 : l0.length ≤ c0) (hr1 : Kd.C Kd.string w A1 l1.length l1) (hc1 : l1.length ≤ c1) (h : wapentakelaw01_NumBack.f k l0 l1 a2 = some r) (hr_ : r = true) :
  Calls Try.prog 5 #[.slice A0 l0.length c0, .slice A1 l1.length c1, .string a2] w fun e w' => e = .returned (.bool r) ∧ Below w.heap.size w w' := by
 have HR0 := Aside0.mk hr0
 have HC0 := Aside0.mk hc0
 clear hr0 hc0
 have HR1 := Aside0.mk hr1
 have HC1 := Aside0.mk hc1
 clear hr1 hc1
 have HB := Aside0.mk (Below.refl w.heap.size w)
 have H : (if (l0.length : Int) > 120 then (wapentakelaw01_NumBack.j0 k l0 l1 a2 true) else ((wapentakelaw01_Great.f k l1).bind fun t163 => (wapentakelaw01_NumBack.j0 k l0 l1 a2 t163))) = some r := h
 clear h
 have HC4 := Aside0.mk H
 clear H
 go_enter Try.func5, Try.ntmps5
 go_upto_region 1 with (fail)
 go_cut [26] (fun v26 wc => ∃ (kq : Nat) (x26_3 : Bool), v26 = .bool x26_3 ∧ Aside0 (wapentakelaw01_NumBack.j0 kq l0 l1 a2 x26_3 = some r) ∧ Aside0 (kq ≤ k) ∧ Aside0 (Below w.heap.size w wc))
 case first =>
  have H := HC4.out
  clear HC4
  by_cases c5 : (l0.length : Int) > 120
  ·rw [if_pos c5] at H
   have c5b0 : decide (120 < (l0.length : Int)) = true := decide_eq_true c5
   have c5b1 : decide (120 < l0.length) = true := decide_eq_true (by omega)
   clear c5
   (first | rw [c5b0] | (simp only [i64_w, i32_w]; rw [c5b0]) | skip)
   have H' := Aside0.mk H
   clear H
   go_wp2
   go_meet
   case rel => exact ⟨_, (true), (by first | rfl | (simp; done) | (simp [*]; done)), H', ⟨by first | omega | exact Nat.le_refl _⟩, ⟨by repeat (first | (with_reducible first | exact HB.out | apply below_alloc | apply pw_below_drewN | apply below_drew1) | exact HB.out)⟩⟩
  ·rw [if_neg c5] at H
   have c5b0 : decide (120 < (l0.length : Int)) = false := decide_eq_false c5
   have c5b1 : decide (120 < l0.length) = false := decide_eq_false (by omega)
   clear c5
   (first | rw [c5b0] | (simp only [i64_w, i32_w]; rw [c5b0]) | skip)
   replace H := Option.bind_eq_some_iff.mp H
   obtain ⟨t163, A60, H⟩ := H
   replace H : (wapentakelaw01_NumBack.j0 k l0 l1 a2 t163) = some r := H
   have A6 := Aside0.mk A60
   clear A60
   have H' := Aside0.mk H
   clear H
   go_wp2_with (first | (go_at_call 11; (with_reducible refine (wapentakelaw01_Great.calls k _ _ l1 t163 _ ?side1 ?side2 A6.out).mono ?_); (case side1 => repeat (first | exact (Kd.C_below HR1.out HB.out) | (with_reducible refine Kd.C_alloc ?_ _) | (with_reducible refine Kd.C_drewN ?_ _) | (with_reducible refine Kd.C_drew ?_))); (case side2 => exact HC1.out); rintro e w' ⟨rfl, ⟨nd, rfl⟩⟩))
   go_meet
   case rel => exact ⟨_, (t163), (by first | rfl | (simp; done) | (simp [*]; done)), H', ⟨by first | omega | exact Nat.le_refl _⟩, ⟨by repeat (first | (with_reducible first | exact HB.out | apply below_alloc | apply pw_below_drewN | apply below_drew1) | exact HB.out)⟩⟩
 case rest =>
  clear HC4
  try clear c1
  try clear p2
  try clear c5
  try clear c5b0
  try clear c5b1
  obtain ⟨kq, x26_3, rfl, HA, HJ3, HB⟩ := hcut
  cases kq with
  | zero => exact absurd HA.out (by simp [wapentakelaw01_NumBack.j0])
  | succ kj3 =>
   have H := HA.out
   clear HA
   simp only [wapentakelaw01_NumBack.j0] at H
   by_cases c7 : x26_3 = true
   ·subst c7
    have H1 : ((wapentakelaw01_awake.f kj3).bind fun t164 => (some t164)) = some r := by rw [if_pos rfl] at H; exact H
    clear H
    have H := H1
    clear H1
    replace H := Option.bind_eq_some_iff.mp H
    obtain ⟨t164, A80, H⟩ := H
    replace H : (some t164) = some r := H
    have A8 := Aside0.mk A80
    clear A80
    clear hr_
    obtain rfl := Option.some.inj H
    go_wp2_with (first | ((with_reducible refine gate_callee (f := 10) rfl ?_); refine goesL_ (some 27) rfl rfl Try.func10 (by kernel_rfl) rfl #[] rfl (by (try simp only [List.map_toArray, List.map_cons, List.map_nil]); first | done | rfl | (simp only [List.length_drop, List.length_take]; rfl)) ?_; (with_reducible refine (wapentakelaw01_awake.calls kj3  t164 _ A8.out).mono ?_); rintro e w9 ⟨rfl, hb⟩; refine ⟨_, rfl, ?_⟩; have n0_ := Aside0.mk (below_step (by repeat (first | (with_reducible first | exact HB.out | apply below_alloc | apply pw_below_drewN | apply below_drew1) | exact HB.out)) hb); clear HB; have HB := n0_; clear n0_; (try clear hb); (try clear hb2); (try clear hk); (try clear hi)))
    go_ret
    exact ⟨by first | rfl | (simp [errW_none, errW_some] <;> rfl) | (simp [*, errW_none, errW_some] <;> rfl), by repeat (first | (with_reducible first | exact HB.out | apply below_alloc | apply pw_below_drewN | apply below_drew1) | exact HB.out)⟩
   ·replace c7 := Bool.eq_false_iff.mpr c7
    subst c7
    have H1 : (if (a2.size : Int) > 20000 then (if 0 ≤ 20000 then (if 20000 ≤ (a2.size : Int) then (wapentakelaw01_NumBack.j1 kj3 l0 l1 (a2.extract 0 20000)) else (none)) else (none)) else (wapentakelaw01_NumBack.j1 kj3 l0 l1 a2)) = some r := by rw [if_neg (show ¬ (false = true) by decide)] at H; exact H
    clear H
    have H := H1
    clear H1
    have HC10 := Aside0.mk H
    clear H
    go_upto_if 30 with (fail)
    go_cut [2] (fun v2 wc => ∃ (kq : Nat) (x2_9 : ByteArray), v2 = .string x2_9 ∧ Aside0 (wapentakelaw01_NumBack.j1 kq l0 l1 x2_9 = some r) ∧ Aside0 (kq ≤ kj3) ∧ Aside0 (Below w.heap.size w wc))
    case first =>
     have H := HC10.out
     clear HC10
     by_cases c11 : (a2.size : Int) > 20000
     ·rw [if_pos c11] at H
      have c11b0 : decide (20000 < (a2.size : Int)) = true := decide_eq_true c11
      have c11b1 : decide (20000 < a2.size) = true := decide_eq_true (by omega)
      clear c11
      (first | rw [c11b0] | (simp only [i64_w, i32_w]; rw [c11b0]) | skip)
      by_cases c12 : 0 ≤ 20000
      ·rw [if_pos c12] at H
       have c12b0 := eq_true c12
       have c12b1 : decide (0 ≤ 20000) = true := decide_eq_true c12
       clear c12
       by_cases c13 : 20000 ≤ (a2.size : Int)
       ·rw [if_pos c13] at H
        have c13b0 := eq_true c13
        have c13b1 : decide (20000 ≤ (a2.size : Int)) = true := decide_eq_true c13
        clear c13
        have H' := Aside0.mk H
        clear H
        go_wp2
        go_meet
        case rel => exact ⟨_, (a2.extract 0 20000), (by first | rfl | (simp; done) | (simp [*]; done)), H', ⟨by have := HJ3.out; first | omega | exact Nat.le_refl _⟩, ⟨by repeat (first | (with_reducible first | exact HB.out | apply below_alloc | apply pw_below_drewN | apply below_drew1) | exact HB.out)⟩⟩
       ·rw [if_neg c13] at H
        exact absurd H (by simp)
      ·rw [if_neg c12] at H
       exact absurd H (by simp)
     ·rw [if_neg c11] at H
      have c11b0 : decide (20000 < (a2.size : Int)) = false := decide_eq_false c11
      have c11b1 : decide (20000 < a2.size) = false := decide_eq_false (by omega)
      clear c11
      (first | rw [c11b0] | (simp only [i64_w, i32_w]; rw [c11b0]) | skip)
      have H' := Aside0.mk H
      clear H
      go_wp2
      go_meet
      case rel => exact ⟨_, (a2), (by first | rfl | (simp; done) | (simp [*]; done)), H', ⟨by have := HJ3.out; first | omega | exact Nat.le_refl _⟩, ⟨by repeat (first | (with_reducible first | exact HB.out | apply below_alloc | apply pw_below_drewN | apply below_drew1) | exact HB.out)⟩⟩
    case rest =>
     clear HC10
     try clear c1
     try clear p2
     try clear c5
     try clear c5b0
     try clear c5b1
     try clear c7
     try clear c10
     try clear c11
     try clear c11b0
     try clear c11b1
     try clear c12
     try clear c12b0
     try clear c12b1
     try clear c13
     try clear c13b0
     try clear c13b1
     try clear p2
     obtain ⟨kq, x2_9, rfl, HA, HJ9, HB⟩ := hcut
     cases kq with
     | zero => exact absurd HA.out (by simp [wapentakelaw01_NumBack.j1])
     | succ kj9 =>
      have H := HA.out
      clear HA
      simp only [wapentakelaw01_NumBack.j1] at H
      replace H := Option.bind_eq_some_iff.mp H
      obtain ⟨t165, A140, H⟩ := H
      replace H : ((num_S.f kj9 l1).bind fun t166 => (if t165.size + t166.size ≤ 9223372036854775807 then (if (t165 ++ t166).size + x2_9.size ≤ 9223372036854775807 then (wapentakelaw01_NumBack.l0 kj9 l0 l1 x2_9 ((t165 ++ t166) ++ x2_9) 0) else (none)) else (none))) = some r := H
      have A14 := Aside0.mk A140
      clear A140
      replace H := Option.bind_eq_some_iff.mp H
      obtain ⟨t166, A150, H⟩ := H
      replace H : (if t165.size + t166.size ≤ 9223372036854775807 then (if (t165 ++ t166).size + x2_9.size ≤ 9223372036854775807 then (wapentakelaw01_NumBack.l0 kj9 l0 l1 x2_9 ((t165 ++ t166) ++ x2_9) 0) else (none)) else (none)) = some r := H
      have A15 := Aside0.mk A150
      clear A150
      by_cases c16 : t165.size + t166.size ≤ 9223372036854775807
      ·rw [if_pos c16] at H
       have c16b0 := eq_true c16
       have c16b1 : decide (t165.size + t166.size ≤ 9223372036854775807) = true := decide_eq_true c16
       try have c16b2 : (9223372036854775807 < t165.size + t166.size) = False := eq_false (Nat.not_lt.2 c16)
       by_cases c17 : (t165 ++ t166).size + x2_9.size ≤ 9223372036854775807
       ·rw [if_pos c17] at H
        have c17b0 := eq_true c17
        have c17b1 : decide ((t165 ++ t166).size + x2_9.size ≤ 9223372036854775807) = true := decide_eq_true c17
        try have c17b2 : (9223372036854775807 < (t165 ++ t166).size + x2_9.size) = False := eq_false (Nat.not_lt.2 c17)
        have H' := Aside0.mk H
        clear H
        go_wp2_with (first | ((with_reducible refine gate_callee (f := 9) rfl ?_); refine goesL_ (some 34) rfl rfl Try.func9 (by kernel_rfl) rfl #[.slice A0 l0.length c0] rfl (by (try simp only [List.map_toArray, List.map_cons, List.map_nil]); first | done | rfl | (simp only [List.length_drop, List.length_take]; rfl)) ?_; (with_reducible refine (num_V.calls _ _ l0 t165 _ ?side1 ?side2 A14.out).mono ?_); (case side1 => repeat (first | exact (Kd.C_below HR0.out HB.out) | (with_reducible refine Kd.C_alloc ?_ _) | (with_reducible refine Kd.C_drewN ?_ _) | (with_reducible refine Kd.C_drew ?_))); (case side2 => exact HC0.out); rintro e w18 ⟨rfl, hb⟩; refine ⟨_, rfl, ?_⟩; have n0_ := Aside0.mk (below_step (by repeat (first | (with_reducible first | exact HB.out | apply below_alloc | apply pw_below_drewN | apply below_drew1) | exact HB.out)) hb); clear HB; have HB := n0_; clear n0_; (try clear hb); (try clear hb2); (try clear hk); (try clear hi)) | ((with_reducible refine gate_callee (f := 13) rfl ?_); refine goesL_ (some 36) rfl rfl Try.func13 (by kernel_rfl) rfl #[.slice A1 l1.length c1] rfl (by (try simp only [List.map_toArray, List.map_cons, List.map_nil]); first | done | rfl | (simp only [List.length_drop, List.length_take]; rfl)) ?_; (with_reducible refine (num_S.calls kj9 _ _ l1 t166 _ ?side1 ?side2 A15.out).mono ?_); (case side1 => repeat (first | exact (Kd.C_below HR1.out HB.out) | (with_reducible refine Kd.C_alloc ?_ _) | (with_reducible refine Kd.C_drewN ?_ _) | (with_reducible refine Kd.C_drew ?_))); (case side2 => exact HC1.out); rintro e w19 ⟨rfl, hb⟩; refine ⟨_, rfl, ?_⟩; have n0_ := Aside0.mk (below_step (by repeat (first | (with_reducible first | exact HB.out | apply below_alloc | apply pw_below_drewN | apply below_drew1) | exact HB.out)) hb); clear HB; have HB := n0_; clear n0_; (try clear hb); (try clear hb2); (try clear hk); (try clear hi)))
        go_loopg [7, 8] kj9 (fun kq v7 v8 w' => ∃ (x7_3 : ByteArray) (x8_3 : Int), v7 = .string x7_3 ∧ v8 = .int .i64 x8_3 ∧ Aside0 (wapentakelaw01_NumBack.l0 kq l0 l1 x2_9 x7_3 x8_3 = some r) ∧ Aside0 (kq ≤ kj9) ∧ Aside0 (Below w.heap.size w w'))
        case atStart => exact ⟨((t165 ++ t166) ++ x2_9), (0), (by first | rfl | (simp; done) | (simp [*]; done)), (by first | rfl | (simp; done) | (simp [*]; done)), H', ⟨Nat.le_refl _⟩, ⟨by repeat (first | (with_reducible first | exact HB.out | apply below_alloc | apply pw_below_drewN | apply below_drew1) | exact HB.out)⟩⟩
        case round =>
         clear H'
         try clear c1
         try clear p2
         try clear c5
         try clear c5b0
         try clear c5b1
         try clear c7
         try clear c9
         try clear c10
         try clear c11
         try clear c11b0
         try clear c11b1
         try clear c12
         try clear c12b0
         try clear c12b1
         try clear c13
         try clear c13b0
         try clear c13b1
         try clear c16
         try clear c16b0
         try clear c16b1
         try clear c16b2
         try clear c17
         try clear c17b0
         try clear c17b1
         try clear c17b2
         try clear p2
         obtain ⟨x7_3, x8_3, rfl, rfl, HA, HK3, HB⟩ := hrel
         cases gk with
         | zero => exact absurd HA.out (by simp [wapentakelaw01_NumBack.l0])
         | succ k3 =>
          have H := HA.out
          clear HA
          simp only [wapentakelaw01_NumBack.l0] at H
          by_cases c20 : x8_3 < (l0.length : Int)
          ·rw [if_pos c20] at H
           have c20b0 : decide (x8_3 < (l0.length : Int)) = true := decide_eq_true c20
           clear c20
           replace H := Option.bind_eq_some_iff.mp H
           obtain ⟨⟨t167, t168, t169⟩, A210, H⟩ := H
           replace H : (if t169 = true then (if 0 ≤ x8_3 then (if t167 = (rd l0 x8_3) then (if t168 < 1 then (some false) else (if t168 > (x7_3.size : Int) then (some false) else (if 0 ≤ t168 then (if t168 ≤ (x7_3.size : Int) then (wapentakelaw01_NumBack.l0 k3 l0 l1 x2_9 (x7_3.extract (t168 : Int).toNat x7_3.size) (wrap64 (x8_3 + 1))) else (none)) else (none)))) else (some false)) else (none)) else (some false)) = some r := H
           have A21 := Aside0.mk A210
           clear A210
           by_cases c22 : t169 = true
           ·subst c22
            have H1 : (if 0 ≤ x8_3 then (if t167 = (rd l0 x8_3) then (if t168 < 1 then (some false) else (if t168 > (x7_3.size : Int) then (some false) else (if 0 ≤ t168 then (if t168 ≤ (x7_3.size : Int) then (wapentakelaw01_NumBack.l0 k3 l0 l1 x2_9 (x7_3.extract (t168 : Int).toNat x7_3.size) (wrap64 (x8_3 + 1))) else (none)) else (none)))) else (some false)) else (none)) = some r := by rw [if_pos rfl] at H; exact H
            clear H
            have H := H1
            clear H1
            by_cases c23 : 0 ≤ x8_3
            ·rw [if_pos c23] at H
             have c23b0 : decide (0 ≤ x8_3) = true := decide_eq_true c23
             clear c23
             by_cases c24 : t167 = (rd l0 x8_3)
             ·rw [if_pos c24] at H
              have c24b0 : (t167 == (rd l0 x8_3)) = true := beq_iff_eq.mpr c24
              have c24b1 : (t167 != (rd l0 x8_3)) = false := bne_eq_false_iff_eq.mpr c24
              clear c24
              by_cases c25 : t168 < 1
              ·rw [if_pos c25] at H
               have c25b0 : decide (t168 < 1) = true := decide_eq_true c25
               clear c25
               exact absurd (Option.some.inj H) (by rw [hr_]; decide)
              ·rw [if_neg c25] at H
               have c25b0 : decide (t168 < 1) = false := decide_eq_false c25
               clear c25
               by_cases c26 : t168 > (x7_3.size : Int)
               ·rw [if_pos c26] at H
                have c26b0 : decide ((x7_3.size : Int) < t168) = true := decide_eq_true c26
                clear c26
                exact absurd (Option.some.inj H) (by rw [hr_]; decide)
               ·rw [if_neg c26] at H
                have c26b0 : decide ((x7_3.size : Int) < t168) = false := decide_eq_false c26
                clear c26
                by_cases c27 : 0 ≤ t168
                ·rw [if_pos c27] at H
                 have c27b0 := eq_true c27
                 have c27b1 : decide (0 ≤ t168) = true := decide_eq_true c27
                 clear c27
                 by_cases c28 : t168 ≤ (x7_3.size : Int)
                 ·rw [if_pos c28] at H
                  have c28b0 := eq_true c28
                  have c28b1 : decide (t168 ≤ (x7_3.size : Int)) = true := decide_eq_true c28
                  clear c28
                  have H' := Aside0.mk H
                  clear H
                  go_wp2_with (first | ((with_reducible refine gate_callee (f := 17) rfl ?_); refine goesL_ (some 48) rfl rfl Try.func17 (by kernel_rfl) rfl #[.string x7_3] rfl (by (try simp only [List.map_toArray, List.map_cons, List.map_nil]); first | done | rfl | (simp only [List.length_drop, List.length_take]; rfl)) ?_; (with_reducible refine (num_ReadV.calls k3 x7_3 t167 t168 true _ A21.out).mono ?_); rintro e w' ⟨rfl, ⟨nd, rfl⟩⟩; refine ⟨_, rfl, ?_⟩; have p170 : 0 ≤ (x8_3 : Int) := of_decide_eq_true (by first | (with_reducible assumption) | assumption); have q170 : x8_3 < (l0.length : Int) := of_decide_eq_true (by first | (with_reducible assumption) | assumption); obtain ⟨ad170, e170, hx170_0⟩ := Kd.at_int HR0.out x8_3 p170 q170; cases e170; replace hx170_0 := (HB.out.cell (World.block_lt_of_cell? w _ hx170_0)).trans hx170_0; replace p170 := eq_true p170; replace q170 := eq_true q170))
                  go_roundg k3
                  case measure => have := HJ3.out; have := HJ9.out; have := HK3.out; omega
                  case rel => exact ⟨(x7_3.extract (t168 : Int).toNat x7_3.size), (wrap64 (x8_3 + 1)), (by first | rfl | (simp; done) | (simp [*]; done)), (by first | rfl | (simp; done) | (simp [*]; done)), H', ⟨by have := HJ3.out; have := HJ9.out; have := HK3.out; omega⟩, ⟨by repeat (first | (with_reducible first | exact HB.out | apply below_alloc | apply pw_below_drewN | apply below_drew1) | exact HB.out)⟩⟩
                 ·rw [if_neg c28] at H
                  exact absurd H (by simp)
                ·rw [if_neg c27] at H
                 exact absurd H (by simp)
             ·rw [if_neg c24] at H
              have c24b0 : (t167 == (rd l0 x8_3)) = false := beq_eq_false_iff_ne.mpr c24
              have c24b1 : (t167 != (rd l0 x8_3)) = true := bne_iff_ne.mpr c24
              exact absurd (Option.some.inj H) (by rw [hr_]; decide)
            ·rw [if_neg c23] at H
             exact absurd H (by simp)
           ·replace c22 := Bool.eq_false_iff.mpr c22
            subst c22
            have H1 : (some false) = some r := by rw [if_neg (show ¬ (false = true) by decide)] at H; exact H
            clear H
            have H := H1
            clear H1
            exact absurd (Option.some.inj H) (by rw [hr_]; decide)
          ·rw [if_neg c20] at H
           have c20b0 : decide (x8_3 < (l0.length : Int)) = false := decide_eq_false c20
           clear c20
           have H' := Aside0.mk H
           clear H
           go_wp2
           go_loopg [7, 12] k3 (fun kq v7 v12 w' => ∃ (x7_4 : ByteArray) (x12_4 : Int), v7 = .string x7_4 ∧ v12 = .int .i64 x12_4 ∧ Aside0 (wapentakelaw01_NumBack.l1 kq l1 x2_9 x7_4 x12_4 = some r) ∧ Aside0 (kq ≤ k3) ∧ Aside0 (Below w.heap.size w w'))
           case atStart => exact ⟨(x7_3), (0), (by first | rfl | (simp; done) | (simp [*]; done)), (by first | rfl | (simp; done) | (simp [*]; done)), H', ⟨Nat.le_refl _⟩, ⟨by repeat (first | (with_reducible first | exact HB.out | apply below_alloc | apply pw_below_drewN | apply below_drew1) | exact HB.out)⟩⟩
           case round =>
            clear H'
            try clear c1
            try clear p1
            try clear q1
            try clear hx1
            try clear c2
            try clear p2
            try clear c5
            try clear c5b0
            try clear c5b1
            try clear p6
            try clear c7
            try clear c9
            try clear c10
            try clear c11
            try clear c11b0
            try clear c11b1
            try clear c12
            try clear c12b0
            try clear c12b1
            try clear c13
            try clear c13b0
            try clear c13b1
            try clear c16
            try clear c16b0
            try clear c16b1
            try clear c16b2
            try clear c17
            try clear c17b0
            try clear c17b1
            try clear c17b2
            try clear p17
            try clear q17
            try clear hx17
            try clear c20
            try clear c20b0
            try clear c22
            try clear c23
            try clear c23b0
            try clear c24
            try clear c24b0
            try clear c24b1
            try clear c25
            try clear c25b0
            try clear c26
            try clear c26b0
            try clear c27
            try clear c27b0
            try clear c27b1
            try clear c28
            try clear c28b0
            try clear c28b1
            try clear hx170_0
            try clear p170
            try clear p2
            try clear q170
            obtain ⟨x7_4, x12_4, rfl, rfl, HA, HK4, HB⟩ := hrel
            cases gk with
            | zero => exact absurd HA.out (by simp [wapentakelaw01_NumBack.l1])
            | succ k4 =>
             have H := HA.out
             clear HA
             simp only [wapentakelaw01_NumBack.l1] at H
             by_cases c29 : x12_4 < (l1.length : Int)
             ·rw [if_pos c29] at H
              have c29b0 : decide (x12_4 < (l1.length : Int)) = true := decide_eq_true c29
              clear c29
              replace H := Option.bind_eq_some_iff.mp H
              obtain ⟨⟨t171, t172, t173⟩, A300, H⟩ := H
              replace H : (if t173 = true then (if 0 ≤ x12_4 then (if t171.toList = (rdOf ByteArray.empty l1 x12_4).toList then (if t172 ≤ (t171.size : Int) then (some false) else (if t172 > (x7_4.size : Int) then (some false) else (if 0 ≤ t172 then (if t172 ≤ (x7_4.size : Int) then (wapentakelaw01_NumBack.l1 k4 l1 x2_9 (x7_4.extract (t172 : Int).toNat x7_4.size) (wrap64 (x12_4 + 1))) else (none)) else (none)))) else (some false)) else (none)) else (some false)) = some r := H
              have A30 := Aside0.mk A300
              clear A300
              by_cases c31 : t173 = true
              ·subst c31
               have H1 : (if 0 ≤ x12_4 then (if t171.toList = (rdOf ByteArray.empty l1 x12_4).toList then (if t172 ≤ (t171.size : Int) then (some false) else (if t172 > (x7_4.size : Int) then (some false) else (if 0 ≤ t172 then (if t172 ≤ (x7_4.size : Int) then (wapentakelaw01_NumBack.l1 k4 l1 x2_9 (x7_4.extract (t172 : Int).toNat x7_4.size) (wrap64 (x12_4 + 1))) else (none)) else (none)))) else (some false)) else (none)) = some r := by rw [if_pos rfl] at H; exact H
               clear H
               have H := H1
               clear H1
               by_cases c32 : 0 ≤ x12_4
               ·rw [if_pos c32] at H
                have c32b0 : decide (0 ≤ x12_4) = true := decide_eq_true c32
                clear c32
                by_cases c33 : t171.toList = (rdOf ByteArray.empty l1 x12_4).toList
                ·rw [if_pos c33] at H
                 have c33b0 : (t171.toList == (rdOf ByteArray.empty l1 x12_4).toList) = true := beq_iff_eq.mpr c33
                 have c33b1 : (t171.toList != (rdOf ByteArray.empty l1 x12_4).toList) = false := bne_eq_false_iff_eq.mpr c33
                 clear c33
                 by_cases c34 : t172 ≤ (t171.size : Int)
                 ·rw [if_pos c34] at H
                  have c34b0 : decide (t172 ≤ (t171.size : Int)) = true := decide_eq_true c34
                  clear c34
                  exact absurd (Option.some.inj H) (by rw [hr_]; decide)
                 ·rw [if_neg c34] at H
                  have c34b0 : decide (t172 ≤ (t171.size : Int)) = false := decide_eq_false c34
                  clear c34
                  by_cases c35 : t172 > (x7_4.size : Int)
                  ·rw [if_pos c35] at H
                   have c35b0 : decide ((x7_4.size : Int) < t172) = true := decide_eq_true c35
                   clear c35
                   exact absurd (Option.some.inj H) (by rw [hr_]; decide)
                  ·rw [if_neg c35] at H
                   have c35b0 : decide ((x7_4.size : Int) < t172) = false := decide_eq_false c35
                   clear c35
                   by_cases c36 : 0 ≤ t172
                   ·rw [if_pos c36] at H
                    have c36b0 := eq_true c36
                    have c36b1 : decide (0 ≤ t172) = true := decide_eq_true c36
                    clear c36
                    by_cases c37 : t172 ≤ (x7_4.size : Int)
                    ·rw [if_pos c37] at H
                     have c37b0 := eq_true c37
                     have c37b1 : decide (t172 ≤ (x7_4.size : Int)) = true := decide_eq_true c37
                     clear c37
                     have H' := Aside0.mk H
                     clear H
                     go_wp2_with (first | ((with_reducible refine gate_callee (f := 18) rfl ?_); refine goesL_ (some 83) rfl rfl Try.func18 (by kernel_rfl) rfl #[.string x7_4] rfl (by (try simp only [List.map_toArray, List.map_cons, List.map_nil]); first | done | rfl | (simp only [List.length_drop, List.length_take]; rfl)) ?_; (with_reducible refine (num_ReadS.calls k4 x7_4 t171 t172 true _ A30.out).mono ?_); rintro e w' ⟨rfl, ⟨nd, rfl⟩⟩; refine ⟨_, rfl, ?_⟩; have p174 : 0 ≤ (x12_4 : Int) := of_decide_eq_true (by first | (with_reducible assumption) | assumption); have q174 : x12_4 < (l1.length : Int) := of_decide_eq_true (by first | (with_reducible assumption) | assumption); obtain ⟨ad174, e174, hx174_0⟩ := Kd.at_string HR1.out x12_4 p174 q174; cases e174; replace hx174_0 := (HB.out.cell (World.block_lt_of_cell? w _ hx174_0)).trans hx174_0; replace p174 := eq_true p174; replace q174 := eq_true q174))
                     go_roundg k4
                     case measure => have := HJ3.out; have := HJ9.out; have := HK3.out; have := HK4.out; omega
                     case rel => exact ⟨(x7_4.extract (t172 : Int).toNat x7_4.size), (wrap64 (x12_4 + 1)), (by first | rfl | (simp; done) | (simp [*]; done)), (by first | rfl | (simp; done) | (simp [*]; done)), H', ⟨by have := HJ3.out; have := HJ9.out; have := HK3.out; have := HK4.out; omega⟩, ⟨by repeat (first | (with_reducible first | exact HB.out | apply below_alloc | apply pw_below_drewN | apply below_drew1) | exact HB.out)⟩⟩
                    ·rw [if_neg c37] at H
                     exact absurd H (by simp)
                   ·rw [if_neg c36] at H
                    exact absurd H (by simp)
                ·rw [if_neg c33] at H
                 have c33b0 : (t171.toList == (rdOf ByteArray.empty l1 x12_4).toList) = false := beq_eq_false_iff_ne.mpr c33
                 have c33b1 : (t171.toList != (rdOf ByteArray.empty l1 x12_4).toList) = true := bne_iff_ne.mpr c33
                 exact absurd (Option.some.inj H) (by rw [hr_]; decide)
               ·rw [if_neg c32] at H
                exact absurd H (by simp)
              ·replace c31 := Bool.eq_false_iff.mpr c31
               subst c31
               have H1 : (some false) = some r := by rw [if_neg (show ¬ (false = true) by decide)] at H; exact H
               clear H
               have H := H1
               clear H1
               exact absurd (Option.some.inj H) (by rw [hr_]; decide)
             ·rw [if_neg c29] at H
              have c29b0 : decide (x12_4 < (l1.length : Int)) = false := decide_eq_false c29
              clear c29
              by_cases c38 : x7_4.toList = x2_9.toList
              ·rw [if_pos c38] at H
               have c38b0 : (x7_4.toList == x2_9.toList) = true := beq_iff_eq.mpr c38
               have c38b1 : (x7_4.toList != x2_9.toList) = false := bne_eq_false_iff_eq.mpr c38
               clear c38
               replace H := Option.bind_eq_some_iff.mp H
               obtain ⟨⟨t175, t176, t177⟩, A390, H⟩ := H
               replace H : (if t177 = true then (if t176 < 1 then (some false) else (if t176 > (x2_9.size : Int) then (some false) else ((num_V.f (([t175] : List Int))).bind fun t181 => (if 0 ≤ t176 then (if t176 ≤ (x2_9.size : Int) then (if t181.toList = (x2_9.extract 0 (t176 : Int).toNat).toList then ((num_ReadS.f k4 x2_9).bind fun bt182 => (if bt182.2.2 = true then (if bt182.2.1 ≤ (x2_9.size : Int) then ((num_S.f k4 (([bt182.1] : List ByteArray))).bind fun t188 => (if 0 ≤ bt182.2.1 then (if t188.toList = (x2_9.extract 0 (bt182.2.1 : Int).toNat).toList then ((wapentakelaw01_awake.f k4).bind fun t189 => (some t189)) else (some false)) else (none))) else (some false)) else (if bt182.1.toList = ([] : List UInt8) then (if bt182.2.1 = 0 then ((wapentakelaw01_awake.f k4).bind fun t190 => (some t190)) else (some false)) else (some false)))) else (some false)) else (none)) else (none))))) else (if t175 = 0 then (if t176 = 0 then ((num_ReadS.f k4 x2_9).bind fun bt191 => (if bt191.2.2 = true then (if bt191.2.1 ≤ (x2_9.size : Int) then ((num_S.f k4 (([bt191.1] : List ByteArray))).bind fun t197 => (if 0 ≤ bt191.2.1 then (if t197.toList = (x2_9.extract 0 (bt191.2.1 : Int).toNat).toList then ((wapentakelaw01_awake.f k4).bind fun t198 => (some t198)) else (some false)) else (none))) else (some false)) else (if bt191.1.toList = ([] : List UInt8) then (if bt191.2.1 = 0 then ((wapentakelaw01_awake.f k4).bind fun t199 => (some t199)) else (some false)) else (some false)))) else (some false)) else (some false))) = some r := H
               have A39 := Aside0.mk A390
               clear A390
               by_cases c40 : t177 = true
               ·subst c40
                have H1 : (if t176 < 1 then (some false) else (if t176 > (x2_9.size : Int) then (some false) else ((num_V.f (([t175] : List Int))).bind fun t181 => (if 0 ≤ t176 then (if t176 ≤ (x2_9.size : Int) then (if t181.toList = (x2_9.extract 0 (t176 : Int).toNat).toList then ((num_ReadS.f k4 x2_9).bind fun bt182 => (if bt182.2.2 = true then (if bt182.2.1 ≤ (x2_9.size : Int) then ((num_S.f k4 (([bt182.1] : List ByteArray))).bind fun t188 => (if 0 ≤ bt182.2.1 then (if t188.toList = (x2_9.extract 0 (bt182.2.1 : Int).toNat).toList then ((wapentakelaw01_awake.f k4).bind fun t189 => (some t189)) else (some false)) else (none))) else (some false)) else (if bt182.1.toList = ([] : List UInt8) then (if bt182.2.1 = 0 then ((wapentakelaw01_awake.f k4).bind fun t190 => (some t190)) else (some false)) else (some false)))) else (some false)) else (none)) else (none))))) = some r := by rw [if_pos rfl] at H; exact H
                clear H
                have H := H1
                clear H1
                by_cases c41 : t176 < 1
                ·rw [if_pos c41] at H
                 have c41b0 : decide (t176 < 1) = true := decide_eq_true c41
                 clear c41
                 exact absurd (Option.some.inj H) (by rw [hr_]; decide)
                ·rw [if_neg c41] at H
                 have c41b0 : decide (t176 < 1) = false := decide_eq_false c41
                 clear c41
                 by_cases c42 : t176 > (x2_9.size : Int)
                 ·rw [if_pos c42] at H
                  have c42b0 : decide ((x2_9.size : Int) < t176) = true := decide_eq_true c42
                  clear c42
                  exact absurd (Option.some.inj H) (by rw [hr_]; decide)
                 ·rw [if_neg c42] at H
                  have c42b0 : decide ((x2_9.size : Int) < t176) = false := decide_eq_false c42
                  clear c42
                  obtain ⟨y178, hy178⟩ : ∃ y_ : List Int, y_ = (([t175] : List Int)) := ⟨_, rfl⟩
                  replace H : ((num_V.f y178).bind fun t181 => (if 0 ≤ t176 then (if t176 ≤ (x2_9.size : Int) then (if t181.toList = (x2_9.extract 0 (t176 : Int).toNat).toList then ((num_ReadS.f k4 x2_9).bind fun bt182 => (if bt182.2.2 = true then (if bt182.2.1 ≤ (x2_9.size : Int) then ((num_S.f k4 (([bt182.1] : List ByteArray))).bind fun t188 => (if 0 ≤ bt182.2.1 then (if t188.toList = (x2_9.extract 0 (bt182.2.1 : Int).toNat).toList then ((wapentakelaw01_awake.f k4).bind fun t189 => (some t189)) else (some false)) else (none))) else (some false)) else (if bt182.1.toList = ([] : List UInt8) then (if bt182.2.1 = 0 then ((wapentakelaw01_awake.f k4).bind fun t190 => (some t190)) else (some false)) else (some false)))) else (some false)) else (none)) else (none))) = some r := by first | (rw [hy178]; with_reducible exact H) | (have H2_ := (Option.bind_some _ _).symm.trans H; rw [hy178]; with_reducible exact H2_) | (have H2_ := (Option.bind_some _ _).symm.trans H; with_reducible exact H2_) | with_reducible exact H | (rw [hy178]; exact H) | exact H
                  have Ny178 := Aside0.mk hy178
                  clear hy178
                  replace H := Option.bind_eq_some_iff.mp H
                  obtain ⟨t181, A430, H⟩ := H
                  replace H : (if 0 ≤ t176 then (if t176 ≤ (x2_9.size : Int) then (if t181.toList = (x2_9.extract 0 (t176 : Int).toNat).toList then ((num_ReadS.f k4 x2_9).bind fun bt182 => (if bt182.2.2 = true then (if bt182.2.1 ≤ (x2_9.size : Int) then ((num_S.f k4 (([bt182.1] : List ByteArray))).bind fun t188 => (if 0 ≤ bt182.2.1 then (if t188.toList = (x2_9.extract 0 (bt182.2.1 : Int).toNat).toList then ((wapentakelaw01_awake.f k4).bind fun t189 => (some t189)) else (some false)) else (none))) else (some false)) else (if bt182.1.toList = ([] : List UInt8) then (if bt182.2.1 = 0 then ((wapentakelaw01_awake.f k4).bind fun t190 => (some t190)) else (some false)) else (some false)))) else (some false)) else (none)) else (none)) = some r := H
                  have A43 := Aside0.mk A430
                  clear A430
                  by_cases c44 : 0 ≤ t176
                  ·rw [if_pos c44] at H
                   have c44b0 := eq_true c44
                   have c44b1 : decide (0 ≤ t176) = true := decide_eq_true c44
                   clear c44
                   by_cases c45 : t176 ≤ (x2_9.size : Int)
                   ·rw [if_pos c45] at H
                    have c45b0 := eq_true c45
                    have c45b1 : decide (t176 ≤ (x2_9.size : Int)) = true := decide_eq_true c45
                    clear c45
                    by_cases c46 : t181.toList = (x2_9.extract 0 (t176 : Int).toNat).toList
                    ·rw [if_pos c46] at H
                     have c46b0 : (t181.toList == (x2_9.extract 0 (t176 : Int).toNat).toList) = true := beq_iff_eq.mpr c46
                     have c46b1 : (t181.toList != (x2_9.extract 0 (t176 : Int).toNat).toList) = false := bne_eq_false_iff_eq.mpr c46
                     clear c46
                     replace H := Option.bind_eq_some_iff.mp H
                     obtain ⟨⟨t182, t183, t184⟩, A470, H⟩ := H
                     replace H : (if t184 = true then (if t183 ≤ (x2_9.size : Int) then ((num_S.f k4 (([t182] : List ByteArray))).bind fun t188 => (if 0 ≤ t183 then (if t188.toList = (x2_9.extract 0 (t183 : Int).toNat).toList then ((wapentakelaw01_awake.f k4).bind fun t189 => (some t189)) else (some false)) else (none))) else (some false)) else (if t182.toList = ([] : List UInt8) then (if t183 = 0 then ((wapentakelaw01_awake.f k4).bind fun t190 => (some t190)) else (some false)) else (some false))) = some r := H
                     have A47 := Aside0.mk A470
                     clear A470
                     by_cases c48 : t184 = true
                     ·subst c48
                      have H1 : (if t183 ≤ (x2_9.size : Int) then ((num_S.f k4 (([t182] : List ByteArray))).bind fun t188 => (if 0 ≤ t183 then (if t188.toList = (x2_9.extract 0 (t183 : Int).toNat).toList then ((wapentakelaw01_awake.f k4).bind fun t189 => (some t189)) else (some false)) else (none))) else (some false)) = some r := by rw [if_pos rfl] at H; exact H
                      clear H
                      have H := H1
                      clear H1
                      by_cases c49 : t183 ≤ (x2_9.size : Int)
                      ·rw [if_pos c49] at H
                       have c49b0 : decide (t183 ≤ (x2_9.size : Int)) = true := decide_eq_true c49
                       clear c49
                       obtain ⟨y185, hy185⟩ : ∃ y_ : List ByteArray, y_ = (([t182] : List ByteArray)) := ⟨_, rfl⟩
                       replace H : ((num_S.f k4 y185).bind fun t188 => (if 0 ≤ t183 then (if t188.toList = (x2_9.extract 0 (t183 : Int).toNat).toList then ((wapentakelaw01_awake.f k4).bind fun t189 => (some t189)) else (some false)) else (none))) = some r := by first | (rw [hy185]; with_reducible exact H) | (have H2_ := (Option.bind_some _ _).symm.trans H; rw [hy185]; with_reducible exact H2_) | (have H2_ := (Option.bind_some _ _).symm.trans H; with_reducible exact H2_) | with_reducible exact H | (rw [hy185]; exact H) | exact H
                       have Ny185 := Aside0.mk hy185
                       clear hy185
                       replace H := Option.bind_eq_some_iff.mp H
                       obtain ⟨t188, A500, H⟩ := H
                       replace H : (if 0 ≤ t183 then (if t188.toList = (x2_9.extract 0 (t183 : Int).toNat).toList then ((wapentakelaw01_awake.f k4).bind fun t189 => (some t189)) else (some false)) else (none)) = some r := H
                       have A50 := Aside0.mk A500
                       clear A500
                       by_cases c51 : 0 ≤ t183
                       ·rw [if_pos c51] at H
                        have c51b0 := eq_true c51
                        have c51b1 : decide (0 ≤ t183) = true := decide_eq_true c51
                        clear c51
                        have c52b0 := eq_true (of_decide_eq_true (by first | (with_reducible assumption) | assumption) : t183 ≤ (x2_9.size : Int))
                        by_cases c53 : t188.toList = (x2_9.extract 0 (t183 : Int).toNat).toList
                        ·rw [if_pos c53] at H
                         have c53b0 : (t188.toList == (x2_9.extract 0 (t183 : Int).toNat).toList) = true := beq_iff_eq.mpr c53
                         have c53b1 : (t188.toList != (x2_9.extract 0 (t183 : Int).toNat).toList) = false := bne_eq_false_iff_eq.mpr c53
                         clear c53
                         replace H := Option.bind_eq_some_iff.mp H
                         obtain ⟨t189, A540, H⟩ := H
                         replace H : (some t189) = some r := H
                         have A54 := Aside0.mk A540
                         clear A540
                         clear hr_
                         obtain rfl := Option.some.inj H
                         try go_wp2_with (first | ((with_reducible refine gate_callee (f := 17) rfl ?_); refine goesL_ (some 117) rfl rfl Try.func17 (by kernel_rfl) rfl #[.string x2_9] rfl (by (try simp only [List.map_toArray, List.map_cons, List.map_nil]); first | done | rfl | (simp only [List.length_drop, List.length_take]; rfl)) ?_; (with_reducible refine (num_ReadV.calls k4 x2_9 t175 t176 true _ A39.out).mono ?_); rintro e w' ⟨rfl, ⟨nd, rfl⟩⟩; refine ⟨_, rfl, ?_⟩))
                         (try (rw [drewN_self wr]; generalize hq_ : World.drewN wr _ = wr; have n0_ : Aside0 (Below w.heap.size w wr) := ⟨by rw [← hq_]; exact (by repeat (first | (with_reducible first | exact HB.out | apply below_alloc | apply pw_below_drewN | apply below_drew1) | exact HB.out))⟩; clear HB hq_; have HB := n0_; clear n0_))
                         have n0_ := Aside0.mk (below_drew1 HB.out)
                         clear HB
                         have HB := n0_
                         clear n0_
                         refine start_ (n := 32) (S := fun w' => True) (ds := []) #[false, false, false, false, false, false, false, false, false, false, false, false, false, false, false, false, false, false, false, false, false, false, false, false, false, false, false, false, false, false, false, false] (by kernel_rfl) rfl rfl trivial (fun hHeld => ?_); refine with_tabW wapentakelaw01_NumBack.tab23 wapentakelaw01_NumBack.bits23 (fun HT_ HW_ => ?_)
                         generalize wr.drew = w55 at HB hHeld ⊢
                         refine pure_ (i := 0) (N := some 121) (v := ?_) (a' := ?_) (bq_8_ 32 1) rfl rfl (any_of HT_.out (by kernel_rfl)) (fun _ _ _ h => h) (Or.inl ⟨by rfl, ?_⟩) ?_ ?_
                         rotate_left
                         ·intro w'
                          go_simp
                          with_reducible rfl
                         rotate_left
                         ·simp only [Act.put, zA8_, zB8_, zC8_, i64_w, i32_w]
                          rfl
                         refine pure_ (i := 1) (N := some 122) (v := ?_) (a' := ?_) (bq_8_ 32 3) rfl rfl (any_of HT_.out (by kernel_rfl)) (fun _ _ _ h => h) (Or.inl ⟨by rfl, ?_⟩) ?_ ?_
                         rotate_left
                         ·intro w'
                          go_simp
                          with_reducible rfl
                         rotate_left
                         ·simp only [Act.put, zA8_, zB8_, zC8_, i64_w, i32_w]
                          rfl
                         refine pure_ (i := 2) (N := some 123) (v := ?_) (a' := ?_) (bq_8_ 32 7) rfl rfl (any_of HT_.out (by kernel_rfl)) (fun _ _ _ h => h) (Or.inl ⟨by rfl, ?_⟩) ?_ ?_
                         rotate_left
                         ·intro w'
                          go_simp
                          with_reducible rfl
                         rotate_left
                         ·simp only [Act.put, zA8_, zB8_, zC8_, i64_w, i32_w]
                          rfl
                         refine pure_ (i := 3) (N := some 124) (v := ?_) (a' := ?_) (bq_8_ 32 15) rfl rfl (any_of HT_.out (by kernel_rfl)) (fun _ _ _ h => h) (Or.inl ⟨by rfl, ?_⟩) ?_ ?_
                         rotate_left
                         ·intro w'
                          go_simp
                          with_reducible rfl
                         rotate_left
                         ·simp only [Act.put, zA8_, zB8_, zC8_, i64_w, i32_w]
                          rfl
                         refine pure_ (i := 4) (N := some 125) (v := ?_) (a' := ?_) (bq_8_ 32 31) rfl rfl (any_of HT_.out (by kernel_rfl)) (fun _ _ _ h => h) (Or.inl ⟨by rfl, ?_⟩) ?_ ?_
                         rotate_left
                         ·intro w'
                          go_simp
                          with_reducible rfl
                         rotate_left
                         ·simp only [Act.put, zA8_, zB8_, zC8_, i64_w, i32_w]
                          rfl
                         refine pure_ (i := 5) (N := some 126) (v := ?_) (a' := ?_) (bq_8_ 32 63) rfl rfl (any_of HT_.out (by kernel_rfl)) (fun _ _ _ h => h) (Or.inl ⟨by rfl, ?_⟩) ?_ ?_
                         rotate_left
                         ·intro w'
                          go_simp
                          with_reducible rfl
                         rotate_left
                         ·simp only [Act.put, zA8_, zB8_, zC8_, i64_w, i32_w]
                          rfl
                         refine pure_ (i := 6) (N := some 127) (v := ?_) (a' := ?_) (bq_8_ 32 127) rfl rfl (any_of HT_.out (by kernel_rfl)) (fun _ _ _ h => h) (Or.inl ⟨by rfl, ?_⟩) ?_ ?_
                         rotate_left
                         ·intro w'
                          go_simp
                          with_reducible rfl
                         rotate_left
                         ·simp only [Act.put, zA8_, zB8_, zC8_, i64_w, i32_w]
                          rfl
                         refine pure_ (i := 7) (N := some 128) (v := ?_) (a' := ?_) (bq_8_ 32 255) rfl rfl (any_of HT_.out (by kernel_rfl)) (fun _ _ _ h => h) (Or.inl ⟨by rfl, ?_⟩) ?_ ?_
                         rotate_left
                         ·intro w'
                          go_simp
                          with_reducible rfl
                         rotate_left
                         ·simp only [Act.put, zA8_, zB8_, zC8_, i64_w, i32_w]
                          rfl
                         refine pure_ (i := 8) (N := some 129) (v := ?_) (a' := ?_) (bq_8_ 32 511) rfl rfl (any_of HT_.out (by kernel_rfl)) (fun _ _ _ h => h) (Or.inl ⟨by rfl, ?_⟩) ?_ ?_
                         rotate_left
                         ·intro w'
                          go_simp
                          with_reducible rfl
                         rotate_left
                         ·simp only [Act.put, zA8_, zB8_, zC8_, i64_w, i32_w]
                          rfl
                         refine pure_ (i := 9) (N := some 130) (v := ?_) (a' := ?_) (bq_8_ 32 1023) rfl rfl (any_of HT_.out (by kernel_rfl)) (fun _ _ _ h => h) (Or.inl ⟨by rfl, ?_⟩) ?_ ?_
                         rotate_left
                         ·intro w'
                          go_simp
                          with_reducible rfl
                         rotate_left
                         ·simp only [Act.put, zA8_, zB8_, zC8_, i64_w, i32_w]
                          rfl
                         refine pure_ (i := 10) (N := some 131) (v := ?_) (a' := ?_) (bq_8_ 32 2047) rfl rfl (any_of HT_.out (by kernel_rfl)) (fun _ _ _ h => h) (Or.inl ⟨by rfl, ?_⟩) ?_ ?_
                         rotate_left
                         ·intro w'
                          go_simp
                          with_reducible rfl
                         rotate_left
                         ·simp only [Act.put, zA8_, zB8_, zC8_, i64_w, i32_w]
                          rfl
                         refine pure_ (i := 11) (N := some 132) (v := ?_) (a' := ?_) (bq_8_ 32 4095) rfl rfl (any_of HT_.out (by kernel_rfl)) (fun _ _ _ h => h) (Or.inl ⟨by rfl, ?_⟩) ?_ ?_
                         rotate_left
                         ·intro w'
                          go_simp
                          with_reducible rfl
                         rotate_left
                         ·simp only [Act.put, zA8_, zB8_, zC8_, i64_w, i32_w]
                          rfl
                         refine pure_ (i := 14) (N := some 135) (v := ?_) (a' := ?_) (bq_8_ 32 20479) rfl rfl (any_of HT_.out (by kernel_rfl)) (fun _ _ _ h => h) (Or.inl ⟨by rfl, ?_⟩) ?_ ?_
                         rotate_left
                         ·intro w'
                          go_simp
                          with_reducible rfl
                         rotate_left
                         ·simp only [Act.put, zA8_, zB8_, zC8_, i64_w, i32_w]
                          rfl
                         refine pure_ (i := 15) (N := some 136) (v := ?_) (a' := ?_) (bq_8_ 32 53247) rfl rfl (any_of HT_.out (by kernel_rfl)) (fun _ _ _ h => h) (Or.inl ⟨by rfl, ?_⟩) ?_ ?_
                         rotate_left
                         ·intro w'
                          go_simp
                          with_reducible rfl
                         rotate_left
                         ·simp only [Act.put, zA8_, zB8_, zC8_, i64_w, i32_w]
                          rfl
                         refine pure_ (i := 16) (N := some 137) (v := ?_) (a' := ?_) (bq_8_ 32 118783) rfl rfl (any_of HT_.out (by kernel_rfl)) (fun _ _ _ h => h) (Or.inl ⟨by rfl, ?_⟩) ?_ ?_
                         rotate_left
                         ·intro w'
                          go_simp
                          with_reducible rfl
                         rotate_left
                         ·simp only [Act.put, zA8_, zB8_, zC8_, i64_w, i32_w]
                          rfl
                         refine one_ (i := 12) (N := some 133) (bq_8_ 32 122879) rfl rfl (one_of HT_.out (by kernel_rfl)) (by decide) (fun K hK => ?_)
                         refine Kd.R_lit_step (Kd.int .u64) _ 22 ?hg (N := 133) ?hd (xs := ([t175] : List Int)) (inner := [.int .u64 t175]) (ok := fun _ => True) (okp := fun _ => True) ?hr ?hp (fun _ hk => hk) trivial (Below.refl _ _) (Nat.le_refl _) (by simp) ?_; (case hd => rfl); (case hg => rfl); (case hr => first | (go_simp; done) | (go_simp; rfl)); (case hp => exact (Reps.one (show Kd.M (Kd.int .u64) _ _ _ t175 [.int .u64 t175] from rfl) (Reps.none _ _)))
                         intro v179 w56 ho57 hb hg_ hnew_
                         clear hg_ hnew_
                         (first | rw [← Ny178.out] at ho57 | (simp only [Int.reduceToNat] at ho57; rw [← Ny178.out] at ho57))
                         have n0_ := Aside0.mk (Kd.R_lower ho57 (below_size (by repeat (first | (with_reducible first | exact HB.out | apply below_alloc | apply pw_below_drewN | apply below_drew1) | exact HB.out))))
                         have n1_ := Aside0.mk (below_step (by repeat (first | (with_reducible first | exact HB.out | apply below_alloc | apply pw_below_drewN | apply below_drew1) | exact HB.out)) hb)
                         clear HB
                         have HO180 := n0_
                         have HB := n1_
                         clear n0_ n1_
                         clear hb ho57
                         obtain ⟨Ao58, co58, eo58⟩ := Kd.R_slice HO180.out
                         (first | subst eo58 | (injection eo58 with f1_ f2_ f3_; have f4_ := f1_.symm; have f5_ := f3_.symm; clear f1_ f2_ f3_; subst f4_; subst f5_))
                         refine hK.out _ _ trivial (fun hHeld => ?_)
                         clear hK K
                         refine norm_ (a' := ?_) ?_ ?_
                         rotate_left
                         ·show Act.put _ (some 133) _ = _
                          simp only [Act.put, zA8_, zB8_, zC8_, i64_w, i32_w]
                          rfl
                         refine one_ (i := 13) (N := some 134) (bq_8_ 32 131071) rfl rfl (one_of HT_.out (by kernel_rfl)) (by decide) (fun K hK => ?_)
                         refine goes_ Try.func9 (by kernel_rfl) rfl #[.slice Ao58 y178.length co58] (by rfl) rfl rfl (by (try simp only [List.map_toArray, List.map_cons, List.map_nil]); first | done | rfl | (simp only [List.length_drop, List.length_take]; rfl)) ?_
                         with_reducible refine (num_V.calls _ _ y178 t181 _ ?side1 ?side2 A43.out).mono ?_
                         (case side1 => repeat (first | exact (Kd.R_reads' HO180.out).2.2 | (with_reducible refine Kd.C_alloc ?_ _) | (with_reducible refine Kd.C_drewN ?_ _) | (with_reducible refine Kd.C_drew ?_)))
                         (case side2 => exact (Kd.R_reads' HO180.out).2.1)
                         rintro e w59 ⟨rfl, hb⟩
                         refine ⟨_, rfl, ?_⟩
                         have n0_ := Aside0.mk (Kd.R_below (by (with_reducible repeat (first | apply Kd.R_alloc | apply Kd.R_drewN | apply Kd.R_drew)); exact HO180.out) hb)
                         have n1_ := Aside0.mk (below_step (by repeat (first | (with_reducible first | exact HB.out | apply below_alloc | apply pw_below_drewN | apply below_drew1) | exact HB.out)) hb)
                         clear HO180
                         clear HB
                         have HO180 := n0_
                         have HB := n1_
                         clear n0_ n1_
                         (try clear hb)
                         (try clear hb2)
                         (try clear hk)
                         (try clear hi)
                         refine hK.out _ _ trivial (fun hHeld => ?_)
                         clear hK K
                         refine norm_ (a' := ?_) ?_ ?_
                         rotate_left
                         ·show Act.put _ (some 134) _ = _
                          simp only [Act.put, zA8_, zB8_, zC8_, i64_w, i32_w]
                          rfl
                         refine pure_ (i := 17) (N := some 138) (v := ?_) (a' := ?_) (bq_8_ 32 262143) rfl rfl (any_of HT_.out (by kernel_rfl)) (fun _ _ _ h => h) (Or.inl ⟨by rfl, ?_⟩) ?_ ?_
                         rotate_left
                         ·intro w'
                          go_simp
                          with_reducible rfl
                         rotate_left
                         ·simp only [Act.put, zA8_, zB8_, zC8_, i64_w, i32_w]
                          rfl
                         refine pure_ (i := 18) (N := some 139) (v := ?_) (a' := ?_) (bq_8_ 32 524287) rfl rfl (any_of HT_.out (by kernel_rfl)) (fun _ _ _ h => h) (Or.inl ⟨by rfl, ?_⟩) ?_ ?_
                         rotate_left
                         ·intro w'
                          go_simp
                          with_reducible rfl
                         rotate_left
                         ·simp only [Act.put, zA8_, zB8_, zC8_, i64_w, i32_w]
                          rfl
                         refine pure_ (i := 19) (N := some 140) (v := ?_) (a' := ?_) (bq_8_ 32 1048575) rfl rfl (any_of HT_.out (by kernel_rfl)) (fun _ _ _ h => h) (Or.inl ⟨by rfl, ?_⟩) ?_ ?_
                         rotate_left
                         ·intro w'
                          go_simp
                          with_reducible rfl
                         rotate_left
                         ·simp only [Act.put, zA8_, zB8_, zC8_, i64_w, i32_w]
                          rfl
                         refine pure_ (i := 20) (N := some 141) (v := ?_) (a' := ?_) (bq_8_ 32 2097151) rfl rfl (any_of HT_.out (by kernel_rfl)) (fun _ _ _ h => h) (Or.inl ⟨by rfl, ?_⟩) ?_ ?_
                         rotate_left
                         ·intro w'
                          go_simp
                          with_reducible rfl
                         rotate_left
                         ·simp only [Act.put, zA8_, zB8_, zC8_, i64_w, i32_w]
                          rfl
                         refine pure_ (i := 21) (N := some 142) (v := ?_) (a' := ?_) (bq_8_ 32 4194303) rfl rfl (any_of HT_.out (by kernel_rfl)) (fun _ _ _ h => h) (Or.inl ⟨by rfl, ?_⟩) ?_ ?_
                         rotate_left
                         ·intro w'
                          go_simp
                          with_reducible rfl
                         rotate_left
                         ·simp only [Act.put, zA8_, zB8_, zC8_, i64_w, i32_w]
                          rfl
                         refine pure_ (i := 22) (N := some 143) (v := ?_) (a' := ?_) (bq_8_ 32 8388607) rfl rfl (any_of HT_.out (by kernel_rfl)) (fun _ _ _ h => h) (Or.inl ⟨by rfl, ?_⟩) ?_ ?_
                         rotate_left
                         ·intro w'
                          go_simp
                          with_reducible rfl
                         rotate_left
                         ·simp only [Act.put, zA8_, zB8_, zC8_, i64_w, i32_w]
                          rfl
                         refine pure_ (i := 23) (N := some 144) (v := ?_) (a' := ?_) (bq_8_ 32 16777215) rfl rfl (any_of HT_.out (by kernel_rfl)) (fun _ _ _ h => h) (Or.inl ⟨by rfl, ?_⟩) ?_ ?_
                         rotate_left
                         ·intro w'
                          go_simp
                          with_reducible rfl
                         rotate_left
                         ·simp only [Act.put, zA8_, zB8_, zC8_, i64_w, i32_w]
                          rfl
                         refine pure_ (i := 24) (N := some 145) (v := undef) (a' := ?_) (bq_8_ 32 33554431) rfl rfl (any_of HT_.out (by kernel_rfl)) (fun _ _ _ h => h) (Or.inr ⟨by rfl, rfl⟩) ?_ ?_
                         rotate_left
                         ·simp only [Act.put, zA8_, zB8_, zC8_, i64_w, i32_w]
                          rfl
                         refine pure_ (i := 25) (N := some 146) (v := undef) (a' := ?_) (bq_8_ 32 67108863) rfl rfl (any_of HT_.out (by kernel_rfl)) (fun _ _ _ h => h) (Or.inr ⟨by rfl, rfl⟩) ?_ ?_
                         rotate_left
                         ·simp only [Act.put, zA8_, zB8_, zC8_, i64_w, i32_w]
                          rfl
                         refine pure_ (i := 26) (N := some 147) (v := undef) (a' := ?_) (bq_8_ 32 134217727) rfl rfl (any_of HT_.out (by kernel_rfl)) (fun _ _ _ h => h) (Or.inr ⟨by rfl, rfl⟩) ?_ ?_
                         rotate_left
                         ·simp only [Act.put, zA8_, zB8_, zC8_, i64_w, i32_w]
                          rfl
                         refine pure_ (i := 27) (N := some 148) (v := undef) (a' := ?_) (bq_8_ 32 268435455) rfl rfl (any_of HT_.out (by kernel_rfl)) (fun _ _ _ h => h) (Or.inr ⟨by rfl, rfl⟩) ?_ ?_
                         rotate_left
                         ·simp only [Act.put, zA8_, zB8_, zC8_, i64_w, i32_w]
                          rfl
                         refine pure_ (i := 28) (N := some 149) (v := undef) (a' := ?_) (bq_8_ 32 536870911) rfl rfl (any_of HT_.out (by kernel_rfl)) (fun _ _ _ h => h) (Or.inr ⟨by rfl, rfl⟩) ?_ ?_
                         rotate_left
                         ·simp only [Act.put, zA8_, zB8_, zC8_, i64_w, i32_w]
                          rfl
                         refine pure_ (i := 29) (N := some 150) (v := undef) (a' := ?_) (bq_8_ 32 1073741823) rfl rfl (any_of HT_.out (by kernel_rfl)) (fun _ _ _ h => h) (Or.inr ⟨by rfl, rfl⟩) ?_ ?_
                         rotate_left
                         ·simp only [Act.put, zA8_, zB8_, zC8_, i64_w, i32_w]
                          rfl
                         refine pure_ (i := 30) (N := some 151) (v := ?_) (a' := ?_) (bq_8_ 32 2147483647) rfl rfl (any_of HT_.out (by kernel_rfl)) (fun _ _ _ h => h) (Or.inl ⟨by rfl, ?_⟩) ?_ ?_
                         rotate_left
                         ·intro w'
                          go_simp
                          with_reducible rfl
                         rotate_left
                         ·simp only [Act.put, zA8_, zB8_, zC8_, i64_w, i32_w]
                          rfl
                         refine pure_ (i := 31) (N := some 152) (v := ?_) (a' := ?_) (bq_8_ 32 4294967295) rfl rfl (any_of HT_.out (by kernel_rfl)) (fun _ _ _ h => h) (Or.inl ⟨by rfl, ?_⟩) ?_ ?_
                         rotate_left
                         ·intro w'
                          go_simp
                          with_reducible rfl
                         rotate_left
                         ·simp only [Act.put, zA8_, zB8_, zC8_, i64_w, i32_w]
                          rfl
                         refine done_ (done_of HT_.out (by kernel_rfl)) ?_
                         try go_wp2_with (first | ((with_reducible refine gate_callee (f := 18) rfl ?_); refine goesL_ (some 155) rfl rfl Try.func18 (by kernel_rfl) rfl #[.string x2_9] rfl (by (try simp only [List.map_toArray, List.map_cons, List.map_nil]); first | done | rfl | (simp only [List.length_drop, List.length_take]; rfl)) ?_; (with_reducible refine (num_ReadS.calls k4 x2_9 t182 t183 true _ A47.out).mono ?_); rintro e w' ⟨rfl, ⟨nd, rfl⟩⟩; refine ⟨_, rfl, ?_⟩))
                         (try (rw [drewN_self w59]; generalize hq_ : World.drewN w59 _ = w59; have n0_ : Aside0 (Kd.R (Kd.int .u64) 22 w59 w.heap.size (fun _ => True) (.slice Ao58 y178.length co58) y178) := ⟨by rw [← hq_]; exact (by (with_reducible repeat (first | apply Kd.R_alloc | apply Kd.R_drewN | apply Kd.R_drew)); exact HO180.out)⟩; have n1_ : Aside0 (Below w.heap.size w w59) := ⟨by rw [← hq_]; exact (by repeat (first | (with_reducible first | exact HB.out | apply below_alloc | apply pw_below_drewN | apply below_drew1) | exact HB.out))⟩; clear HO180 HB hq_; have HO180 := n0_; have HB := n1_; clear n0_ n1_))
                         have n0_ := Aside0.mk (Kd.R_drew HO180.out)
                         have n1_ := Aside0.mk (below_drew1 HB.out)
                         clear HO180
                         clear HB
                         have HO180 := n0_
                         have HB := n1_
                         clear n0_ n1_
                         refine start_ (n := 32) (S := fun w' => True) (ds := []) #[false, false, false, false, false, false, false, false, false, false, false, false, false, false, false, false, false, false, false, false, false, false, false, false, false, false, false, false, false, false, false, false] (by kernel_rfl) rfl rfl trivial (fun hHeld => ?_); refine with_tabW wapentakelaw01_NumBack.tab26 wapentakelaw01_NumBack.bits26 (fun HT_ HW_ => ?_)
                         generalize w59.drew = w60 at HO180 HB hHeld ⊢
                         refine pure_ (i := 0) (N := some 159) (v := ?_) (a' := ?_) (bq_8_ 32 1) rfl rfl (any_of HT_.out (by kernel_rfl)) (fun _ _ _ h => h) (Or.inl ⟨by rfl, ?_⟩) ?_ ?_
                         rotate_left
                         ·intro w'
                          go_simp
                          with_reducible rfl
                         rotate_left
                         ·simp only [Act.put, zA8_, zB8_, zC8_, i64_w, i32_w]
                          rfl
                         refine pure_ (i := 1) (N := some 160) (v := ?_) (a' := ?_) (bq_8_ 32 3) rfl rfl (any_of HT_.out (by kernel_rfl)) (fun _ _ _ h => h) (Or.inl ⟨by rfl, ?_⟩) ?_ ?_
                         rotate_left
                         ·intro w'
                          go_simp
                          with_reducible rfl
                         rotate_left
                         ·simp only [Act.put, zA8_, zB8_, zC8_, i64_w, i32_w]
                          rfl
                         refine pure_ (i := 2) (N := some 161) (v := ?_) (a' := ?_) (bq_8_ 32 7) rfl rfl (any_of HT_.out (by kernel_rfl)) (fun _ _ _ h => h) (Or.inl ⟨by rfl, ?_⟩) ?_ ?_
                         rotate_left
                         ·intro w'
                          go_simp
                          with_reducible rfl
                         rotate_left
                         ·simp only [Act.put, zA8_, zB8_, zC8_, i64_w, i32_w]
                          rfl
                         refine pure_ (i := 3) (N := some 162) (v := undef) (a' := ?_) (bq_8_ 32 15) rfl rfl (any_of HT_.out (by kernel_rfl)) (fun _ _ _ h => h) (Or.inr ⟨by rfl, rfl⟩) ?_ ?_
                         rotate_left
                         ·simp only [Act.put, zA8_, zB8_, zC8_, i64_w, i32_w]
                          rfl
                         refine pure_ (i := 4) (N := some 163) (v := undef) (a' := ?_) (bq_8_ 32 31) rfl rfl (any_of HT_.out (by kernel_rfl)) (fun _ _ _ h => h) (Or.inr ⟨by rfl, rfl⟩) ?_ ?_
                         rotate_left
                         ·simp only [Act.put, zA8_, zB8_, zC8_, i64_w, i32_w]
                          rfl
                         refine pure_ (i := 5) (N := some 164) (v := ?_) (a' := ?_) (bq_8_ 32 63) rfl rfl (any_of HT_.out (by kernel_rfl)) (fun _ _ _ h => h) (Or.inl ⟨by rfl, ?_⟩) ?_ ?_
                         rotate_left
                         ·intro w'
                          go_simp
                          with_reducible rfl
                         rotate_left
                         ·simp only [Act.put, zA8_, zB8_, zC8_, i64_w, i32_w]
                          rfl
                         refine pure_ (i := 6) (N := some 165) (v := ?_) (a' := ?_) (bq_8_ 32 127) rfl rfl (any_of HT_.out (by kernel_rfl)) (fun _ _ _ h => h) (Or.inl ⟨by rfl, ?_⟩) ?_ ?_
                         rotate_left
                         ·intro w'
                          go_simp
                          with_reducible rfl
                         rotate_left
                         ·simp only [Act.put, zA8_, zB8_, zC8_, i64_w, i32_w]
                          rfl
                         refine pure_ (i := 7) (N := some 166) (v := undef) (a' := ?_) (bq_8_ 32 255) rfl rfl (any_of HT_.out (by kernel_rfl)) (fun _ _ _ h => h) (Or.inr ⟨by rfl, rfl⟩) ?_ ?_
                         rotate_left
                         ·simp only [Act.put, zA8_, zB8_, zC8_, i64_w, i32_w]
                          rfl
                         refine pure_ (i := 8) (N := some 167) (v := undef) (a' := ?_) (bq_8_ 32 511) rfl rfl (any_of HT_.out (by kernel_rfl)) (fun _ _ _ h => h) (Or.inr ⟨by rfl, rfl⟩) ?_ ?_
                         rotate_left
                         ·simp only [Act.put, zA8_, zB8_, zC8_, i64_w, i32_w]
                          rfl
                         refine pure_ (i := 9) (N := some 168) (v := ?_) (a' := ?_) (bq_8_ 32 1023) rfl rfl (any_of HT_.out (by kernel_rfl)) (fun _ _ _ h => h) (Or.inl ⟨by rfl, ?_⟩) ?_ ?_
                         rotate_left
                         ·intro w'
                          go_simp
                          with_reducible rfl
                         rotate_left
                         ·simp only [Act.put, zA8_, zB8_, zC8_, i64_w, i32_w]
                          rfl
                         refine pure_ (i := 10) (N := some 169) (v := ?_) (a' := ?_) (bq_8_ 32 2047) rfl rfl (any_of HT_.out (by kernel_rfl)) (fun _ _ _ h => h) (Or.inl ⟨by rfl, ?_⟩) ?_ ?_
                         rotate_left
                         ·intro w'
                          go_simp
                          with_reducible rfl
                         rotate_left
                         ·simp only [Act.put, zA8_, zB8_, zC8_, i64_w, i32_w]
                          rfl
                         refine pure_ (i := 11) (N := some 170) (v := ?_) (a' := ?_) (bq_8_ 32 4095) rfl rfl (any_of HT_.out (by kernel_rfl)) (fun _ _ _ h => h) (Or.inl ⟨by rfl, ?_⟩) ?_ ?_
                         rotate_left
                         ·intro w'
                          go_simp
                          with_reducible rfl
                         rotate_left
                         ·simp only [Act.put, zA8_, zB8_, zC8_, i64_w, i32_w]
                          rfl
                         refine pure_ (i := 12) (N := some 171) (v := ?_) (a' := ?_) (bq_8_ 32 8191) rfl rfl (any_of HT_.out (by kernel_rfl)) (fun _ _ _ h => h) (Or.inl ⟨by rfl, ?_⟩) ?_ ?_
                         rotate_left
                         ·intro w'
                          go_simp
                          with_reducible rfl
                         rotate_left
                         ·simp only [Act.put, zA8_, zB8_, zC8_, i64_w, i32_w]
                          rfl
                         refine pure_ (i := 13) (N := some 172) (v := ?_) (a' := ?_) (bq_8_ 32 16383) rfl rfl (any_of HT_.out (by kernel_rfl)) (fun _ _ _ h => h) (Or.inl ⟨by rfl, ?_⟩) ?_ ?_
                         rotate_left
                         ·intro w'
                          go_simp
                          with_reducible rfl
                         rotate_left
                         ·simp only [Act.put, zA8_, zB8_, zC8_, i64_w, i32_w]
                          rfl
                         refine pure_ (i := 14) (N := some 173) (v := ?_) (a' := ?_) (bq_8_ 32 32767) rfl rfl (any_of HT_.out (by kernel_rfl)) (fun _ _ _ h => h) (Or.inl ⟨by rfl, ?_⟩) ?_ ?_
                         rotate_left
                         ·intro w'
                          go_simp
                          with_reducible rfl
                         rotate_left
                         ·simp only [Act.put, zA8_, zB8_, zC8_, i64_w, i32_w]
                          rfl
                         refine pure_ (i := 15) (N := some 174) (v := ?_) (a' := ?_) (bq_8_ 32 65535) rfl rfl (any_of HT_.out (by kernel_rfl)) (fun _ _ _ h => h) (Or.inl ⟨by rfl, ?_⟩) ?_ ?_
                         rotate_left
                         ·intro w'
                          go_simp
                          with_reducible rfl
                         rotate_left
                         ·simp only [Act.put, zA8_, zB8_, zC8_, i64_w, i32_w]
                          rfl
                         refine pure_ (i := 16) (N := some 175) (v := ?_) (a' := ?_) (bq_8_ 32 131071) rfl rfl (any_of HT_.out (by kernel_rfl)) (fun _ _ _ h => h) (Or.inl ⟨by rfl, ?_⟩) ?_ ?_
                         rotate_left
                         ·intro w'
                          go_simp
                          with_reducible rfl
                         rotate_left
                         ·simp only [Act.put, zA8_, zB8_, zC8_, i64_w, i32_w]
                          rfl
                         refine pure_ (i := 17) (N := some 176) (v := ?_) (a' := ?_) (bq_8_ 32 262143) rfl rfl (any_of HT_.out (by kernel_rfl)) (fun _ _ _ h => h) (Or.inl ⟨by rfl, ?_⟩) ?_ ?_
                         rotate_left
                         ·intro w'
                          go_simp
                          with_reducible rfl
                         rotate_left
                         ·simp only [Act.put, zA8_, zB8_, zC8_, i64_w, i32_w]
                          rfl
                         refine pure_ (i := 18) (N := some 177) (v := ?_) (a' := ?_) (bq_8_ 32 524287) rfl rfl (any_of HT_.out (by kernel_rfl)) (fun _ _ _ h => h) (Or.inl ⟨by rfl, ?_⟩) ?_ ?_
                         rotate_left
                         ·intro w'
                          go_simp
                          with_reducible rfl
                         rotate_left
                         ·simp only [Act.put, zA8_, zB8_, zC8_, i64_w, i32_w]
                          rfl
                         refine pure_ (i := 19) (N := some 178) (v := ?_) (a' := ?_) (bq_8_ 32 1048575) rfl rfl (any_of HT_.out (by kernel_rfl)) (fun _ _ _ h => h) (Or.inl ⟨by rfl, ?_⟩) ?_ ?_
                         rotate_left
                         ·intro w'
                          go_simp
                          with_reducible rfl
                         rotate_left
                         ·simp only [Act.put, zA8_, zB8_, zC8_, i64_w, i32_w]
                          rfl
                         refine pure_ (i := 22) (N := some 181) (v := ?_) (a' := ?_) (bq_8_ 32 5242879) rfl rfl (any_of HT_.out (by kernel_rfl)) (fun _ _ _ h => h) (Or.inl ⟨by rfl, ?_⟩) ?_ ?_
                         rotate_left
                         ·intro w'
                          go_simp
                          with_reducible rfl
                         rotate_left
                         ·simp only [Act.put, zA8_, zB8_, zC8_, i64_w, i32_w]
                          rfl
                         refine pure_ (i := 23) (N := some 182) (v := ?_) (a' := ?_) (bq_8_ 32 13631487) rfl rfl (any_of HT_.out (by kernel_rfl)) (fun _ _ _ h => h) (Or.inl ⟨by rfl, ?_⟩) ?_ ?_
                         rotate_left
                         ·intro w'
                          go_simp
                          with_reducible rfl
                         rotate_left
                         ·simp only [Act.put, zA8_, zB8_, zC8_, i64_w, i32_w]
                          rfl
                         refine pure_ (i := 24) (N := some 183) (v := ?_) (a' := ?_) (bq_8_ 32 30408703) rfl rfl (any_of HT_.out (by kernel_rfl)) (fun _ _ _ h => h) (Or.inl ⟨by rfl, ?_⟩) ?_ ?_
                         rotate_left
                         ·intro w'
                          go_simp
                          with_reducible rfl
                         rotate_left
                         ·simp only [Act.put, zA8_, zB8_, zC8_, i64_w, i32_w]
                          rfl
                         refine one_ (i := 20) (N := some 179) (bq_8_ 32 31457279) rfl rfl (one_of HT_.out (by kernel_rfl)) (by decide) (fun K hK => ?_)
                         refine Kd.R_lit_step Kd.string _ 9 ?hg (N := 179) ?hd (xs := ([t182] : List ByteArray)) (inner := [.string t182]) (ok := fun _ => True) (okp := fun _ => True) ?hr ?hp (fun _ hk => hk) trivial (Below.refl _ _) (Nat.le_refl _) (by simp) ?_; (case hd => rfl); (case hg => rfl); (case hr => first | (go_simp; done) | (go_simp; rfl)); (case hp => exact (Reps.one (show Kd.M Kd.string _ _ _ t182 [.string t182] from rfl) (Reps.none _ _)))
                         intro v186 w61 ho62 hb hg_ hnew_
                         clear hg_ hnew_
                         (first | rw [← Ny185.out] at ho62 | (simp only [Int.reduceToNat] at ho62; rw [← Ny185.out] at ho62))
                         have n0_ := Aside0.mk (Kd.R_below (by (with_reducible repeat (first | apply Kd.R_alloc | apply Kd.R_drewN | apply Kd.R_drew)); exact HO180.out) hb)
                         have n1_ := Aside0.mk (Kd.R_lower ho62 (below_size (by repeat (first | (with_reducible first | exact HB.out | apply below_alloc | apply pw_below_drewN | apply below_drew1) | exact HB.out))))
                         have n2_ := Aside0.mk (below_step (by repeat (first | (with_reducible first | exact HB.out | apply below_alloc | apply pw_below_drewN | apply below_drew1) | exact HB.out)) hb)
                         clear HO180
                         clear HB
                         have HO180 := n0_
                         have HO187 := n1_
                         have HB := n2_
                         clear n0_ n1_ n2_
                         clear hb ho62
                         obtain ⟨Ao63, co63, eo63⟩ := Kd.R_slice HO187.out
                         (first | subst eo63 | (injection eo63 with f1_ f2_ f3_; have f4_ := f1_.symm; have f5_ := f3_.symm; clear f1_ f2_ f3_; subst f4_; subst f5_))
                         refine hK.out _ _ trivial (fun hHeld => ?_)
                         clear hK K
                         refine norm_ (a' := ?_) ?_ ?_
                         rotate_left
                         ·show Act.put _ (some 179) _ = _
                          simp only [Act.put, zA8_, zB8_, zC8_, i64_w, i32_w]
                          rfl
                         refine one_ (i := 21) (N := some 180) (bq_8_ 32 33554431) rfl rfl (one_of HT_.out (by kernel_rfl)) (by decide) (fun K hK => ?_)
                         refine goes_ Try.func13 (by kernel_rfl) rfl #[.slice Ao63 y185.length co63] (by rfl) rfl rfl (by (try simp only [List.map_toArray, List.map_cons, List.map_nil]); first | done | rfl | (simp only [List.length_drop, List.length_take]; rfl)) ?_
                         with_reducible refine (num_S.calls k4 _ _ y185 t188 _ ?side1 ?side2 A50.out).mono ?_
                         (case side1 => repeat (first | exact (Kd.R_reads' HO187.out).2.2 | (with_reducible refine Kd.C_alloc ?_ _) | (with_reducible refine Kd.C_drewN ?_ _) | (with_reducible refine Kd.C_drew ?_)))
                         (case side2 => exact (Kd.R_reads' HO187.out).2.1)
                         rintro e w64 ⟨rfl, hb⟩
                         refine ⟨_, rfl, ?_⟩
                         have n0_ := Aside0.mk (Kd.R_below (by (with_reducible repeat (first | apply Kd.R_alloc | apply Kd.R_drewN | apply Kd.R_drew)); exact HO180.out) hb)
                         have n1_ := Aside0.mk (Kd.R_below (by (with_reducible repeat (first | apply Kd.R_alloc | apply Kd.R_drewN | apply Kd.R_drew)); exact HO187.out) hb)
                         have n2_ := Aside0.mk (below_step (by repeat (first | (with_reducible first | exact HB.out | apply below_alloc | apply pw_below_drewN | apply below_drew1) | exact HB.out)) hb)
                         clear HO180
                         clear HO187
                         clear HB
                         have HO180 := n0_
                         have HO187 := n1_
                         have HB := n2_
                         clear n0_ n1_ n2_
                         (try clear hb)
                         (try clear hb2)
                         (try clear hk)
                         (try clear hi)
                         refine hK.out _ _ trivial (fun hHeld => ?_)
                         clear hK K
                         refine norm_ (a' := ?_) ?_ ?_
                         rotate_left
                         ·show Act.put _ (some 180) _ = _
                          simp only [Act.put, zA8_, zB8_, zC8_, i64_w, i32_w]
                          rfl
                         refine pure_ (i := 25) (N := some 184) (v := ?_) (a' := ?_) (bq_8_ 32 67108863) rfl rfl (any_of HT_.out (by kernel_rfl)) (fun _ _ _ h => h) (Or.inl ⟨by rfl, ?_⟩) ?_ ?_
                         rotate_left
                         ·intro w'
                          go_simp
                          with_reducible rfl
                         rotate_left
                         ·simp only [Act.put, zA8_, zB8_, zC8_, i64_w, i32_w]
                          rfl
                         refine pure_ (i := 26) (N := some 185) (v := ?_) (a' := ?_) (bq_8_ 32 134217727) rfl rfl (any_of HT_.out (by kernel_rfl)) (fun _ _ _ h => h) (Or.inl ⟨by rfl, ?_⟩) ?_ ?_
                         rotate_left
                         ·intro w'
                          go_simp
                          with_reducible rfl
                         rotate_left
                         ·simp only [Act.put, zA8_, zB8_, zC8_, i64_w, i32_w]
                          rfl
                         refine pure_ (i := 27) (N := some 186) (v := ?_) (a' := ?_) (bq_8_ 32 268435455) rfl rfl (any_of HT_.out (by kernel_rfl)) (fun _ _ _ h => h) (Or.inl ⟨by rfl, ?_⟩) ?_ ?_
                         rotate_left
                         ·intro w'
                          go_simp
                          with_reducible rfl
                         rotate_left
                         ·simp only [Act.put, zA8_, zB8_, zC8_, i64_w, i32_w]
                          rfl
                         refine pure_ (i := 28) (N := some 187) (v := ?_) (a' := ?_) (bq_8_ 32 536870911) rfl rfl (any_of HT_.out (by kernel_rfl)) (fun _ _ _ h => h) (Or.inl ⟨by rfl, ?_⟩) ?_ ?_
                         rotate_left
                         ·intro w'
                          go_simp
                          with_reducible rfl
                         rotate_left
                         ·simp only [Act.put, zA8_, zB8_, zC8_, i64_w, i32_w]
                          rfl
                         refine one_ (i := 29) (N := some 188) (bq_8_ 32 1073741823) rfl rfl (one_of HT_.out (by kernel_rfl)) (by decide) (fun K hK => ?_)
                         refine goes_ Try.func10 (by kernel_rfl) rfl #[] (by rfl) rfl rfl (by (try simp only [List.map_toArray, List.map_cons, List.map_nil]); first | done | rfl | (simp only [List.length_drop, List.length_take]; rfl)) ?_
                         with_reducible refine (wapentakelaw01_awake.calls k4  t189 _ A54.out).mono ?_
                         rintro e w65 ⟨rfl, hb⟩
                         refine ⟨_, rfl, ?_⟩
                         have n0_ := Aside0.mk (Kd.R_below (by (with_reducible repeat (first | apply Kd.R_alloc | apply Kd.R_drewN | apply Kd.R_drew)); exact HO180.out) hb)
                         have n1_ := Aside0.mk (Kd.R_below (by (with_reducible repeat (first | apply Kd.R_alloc | apply Kd.R_drewN | apply Kd.R_drew)); exact HO187.out) hb)
                         have n2_ := Aside0.mk (below_step (by repeat (first | (with_reducible first | exact HB.out | apply below_alloc | apply pw_below_drewN | apply below_drew1) | exact HB.out)) hb)
                         clear HO180
                         clear HO187
                         clear HB
                         have HO180 := n0_
                         have HO187 := n1_
                         have HB := n2_
                         clear n0_ n1_ n2_
                         (try clear hb)
                         (try clear hb2)
                         (try clear hk)
                         (try clear hi)
                         refine hK.out _ _ trivial (fun hHeld => ?_)
                         clear hK K
                         refine norm_ (a' := ?_) ?_ ?_
                         rotate_left
                         ·show Act.put _ (some 188) _ = _
                          simp only [Act.put, zA8_, zB8_, zC8_, i64_w, i32_w]
                          rfl
                         refine pure_ (i := 30) (N := some 189) (v := ?_) (a' := ?_) (bq_8_ 32 2147483647) rfl rfl (any_of HT_.out (by kernel_rfl)) (fun _ _ _ h => h) (Or.inl ⟨by rfl, ?_⟩) ?_ ?_
                         rotate_left
                         ·intro w'
                          go_simp
                          with_reducible rfl
                         rotate_left
                         ·simp only [Act.put, zA8_, zB8_, zC8_, i64_w, i32_w]
                          rfl
                         refine pure_ (i := 31) (N := some 6) (v := ?_) (a' := ?_) (bq_8_ 32 4294967295) rfl rfl (any_of HT_.out (by kernel_rfl)) (fun _ _ _ h => h) (Or.inl ⟨by rfl, ?_⟩) ?_ ?_
                         rotate_left
                         ·intro w'
                          go_simp
                          with_reducible rfl
                         rotate_left
                         ·simp only [Act.put, zA8_, zB8_, zC8_, i64_w, i32_w]
                          rfl
                         refine done_ (done_of HT_.out (by kernel_rfl)) ?_
                         try go_wp2
                         go_ret
                         exact ⟨by first | rfl | (simp [errW_none, errW_some] <;> rfl) | (simp [*, errW_none, errW_some] <;> rfl), by repeat (first | (with_reducible first | exact HB.out | apply below_alloc | apply pw_below_drewN | apply below_drew1) | exact HB.out)⟩
                        ·rw [if_neg c53] at H
                         have c53b0 : (t188.toList == (x2_9.extract 0 (t183 : Int).toNat).toList) = false := beq_eq_false_iff_ne.mpr c53
                         have c53b1 : (t188.toList != (x2_9.extract 0 (t183 : Int).toNat).toList) = true := bne_iff_ne.mpr c53
                         exact absurd (Option.some.inj H) (by rw [hr_]; decide)
                       ·rw [if_neg c51] at H
                        exact absurd H (by simp)
                      ·rw [if_neg c49] at H
                       have c49b0 : decide (t183 ≤ (x2_9.size : Int)) = false := decide_eq_false c49
                       clear c49
                       exact absurd (Option.some.inj H) (by rw [hr_]; decide)
                     ·replace c48 := Bool.eq_false_iff.mpr c48
                      subst c48
                      have H1 : (if t182.toList = ([] : List UInt8) then (if t183 = 0 then ((wapentakelaw01_awake.f k4).bind fun t190 => (some t190)) else (some false)) else (some false)) = some r := by rw [if_neg (show ¬ (false = true) by decide)] at H; exact H
                      clear H
                      have H := H1
                      clear H1
                      by_cases c66 : t182.toList = ([] : List UInt8)
                      ·rw [if_pos c66] at H
                       have c66b0 : (t182.toList == ([] : List UInt8)) = true := beq_iff_eq.mpr c66
                       have c66b1 : (t182.toList != ([] : List UInt8)) = false := bne_eq_false_iff_eq.mpr c66
                       clear c66
                       by_cases c67 : t183 = 0
                       ·rw [if_pos c67] at H
                        have c67b0 : (t183 == 0) = true := beq_iff_eq.mpr c67
                        have c67b1 : (t183 != 0) = false := bne_eq_false_iff_eq.mpr c67
                        clear c67
                        replace H := Option.bind_eq_some_iff.mp H
                        obtain ⟨t190, A680, H⟩ := H
                        replace H : (some t190) = some r := H
                        have A68 := Aside0.mk A680
                        clear A680
                        clear hr_
                        obtain rfl := Option.some.inj H
                        try go_wp2_with (first | ((with_reducible refine gate_callee (f := 17) rfl ?_); refine goesL_ (some 117) rfl rfl Try.func17 (by kernel_rfl) rfl #[.string x2_9] rfl (by (try simp only [List.map_toArray, List.map_cons, List.map_nil]); first | done | rfl | (simp only [List.length_drop, List.length_take]; rfl)) ?_; (with_reducible refine (num_ReadV.calls k4 x2_9 t175 t176 true _ A39.out).mono ?_); rintro e w' ⟨rfl, ⟨nd, rfl⟩⟩; refine ⟨_, rfl, ?_⟩))
                        (try (rw [drewN_self wr]; generalize hq_ : World.drewN wr _ = wr; have n0_ : Aside0 (Below w.heap.size w wr) := ⟨by rw [← hq_]; exact (by repeat (first | (with_reducible first | exact HB.out | apply below_alloc | apply pw_below_drewN | apply below_drew1) | exact HB.out))⟩; clear HB hq_; have HB := n0_; clear n0_))
                        have n0_ := Aside0.mk (below_drew1 HB.out)
                        clear HB
                        have HB := n0_
                        clear n0_
                        refine start_ (n := 32) (S := fun w' => True) (ds := []) #[false, false, false, false, false, false, false, false, false, false, false, false, false, false, false, false, false, false, false, false, false, false, false, false, false, false, false, false, false, false, false, false] (by kernel_rfl) rfl rfl trivial (fun hHeld => ?_); refine with_tabW wapentakelaw01_NumBack.tab23 wapentakelaw01_NumBack.bits23 (fun HT_ HW_ => ?_)
                        generalize wr.drew = w69 at HB hHeld ⊢
                        refine pure_ (i := 0) (N := some 121) (v := ?_) (a' := ?_) (bq_8_ 32 1) rfl rfl (any_of HT_.out (by kernel_rfl)) (fun _ _ _ h => h) (Or.inl ⟨by rfl, ?_⟩) ?_ ?_
                        rotate_left
                        ·intro w'
                         go_simp
                         with_reducible rfl
                        rotate_left
                        ·simp only [Act.put, zA8_, zB8_, zC8_, i64_w, i32_w]
                         rfl
                        refine pure_ (i := 1) (N := some 122) (v := ?_) (a' := ?_) (bq_8_ 32 3) rfl rfl (any_of HT_.out (by kernel_rfl)) (fun _ _ _ h => h) (Or.inl ⟨by rfl, ?_⟩) ?_ ?_
                        rotate_left
                        ·intro w'
                         go_simp
                         with_reducible rfl
                        rotate_left
                        ·simp only [Act.put, zA8_, zB8_, zC8_, i64_w, i32_w]
                         rfl
                        refine pure_ (i := 2) (N := some 123) (v := ?_) (a' := ?_) (bq_8_ 32 7) rfl rfl (any_of HT_.out (by kernel_rfl)) (fun _ _ _ h => h) (Or.inl ⟨by rfl, ?_⟩) ?_ ?_
                        rotate_left
                        ·intro w'
                         go_simp
                         with_reducible rfl
                        rotate_left
                        ·simp only [Act.put, zA8_, zB8_, zC8_, i64_w, i32_w]
                         rfl
                        refine pure_ (i := 3) (N := some 124) (v := ?_) (a' := ?_) (bq_8_ 32 15) rfl rfl (any_of HT_.out (by kernel_rfl)) (fun _ _ _ h => h) (Or.inl ⟨by rfl, ?_⟩) ?_ ?_
                        rotate_left
                        ·intro w'
                         go_simp
                         with_reducible rfl
                        rotate_left
                        ·simp only [Act.put, zA8_, zB8_, zC8_, i64_w, i32_w]
                         rfl
                        refine pure_ (i := 4) (N := some 125) (v := ?_) (a' := ?_) (bq_8_ 32 31) rfl rfl (any_of HT_.out (by kernel_rfl)) (fun _ _ _ h => h) (Or.inl ⟨by rfl, ?_⟩) ?_ ?_
                        rotate_left
                        ·intro w'
                         go_simp
                         with_reducible rfl
                        rotate_left
                        ·simp only [Act.put, zA8_, zB8_, zC8_, i64_w, i32_w]
                         rfl
                        refine pure_ (i := 5) (N := some 126) (v := ?_) (a' := ?_) (bq_8_ 32 63) rfl rfl (any_of HT_.out (by kernel_rfl)) (fun _ _ _ h => h) (Or.inl ⟨by rfl, ?_⟩) ?_ ?_
                        rotate_left
                        ·intro w'
                         go_simp
                         with_reducible rfl
                        rotate_left
                        ·simp only [Act.put, zA8_, zB8_, zC8_, i64_w, i32_w]
                         rfl
                        refine pure_ (i := 6) (N := some 127) (v := ?_) (a' := ?_) (bq_8_ 32 127) rfl rfl (any_of HT_.out (by kernel_rfl)) (fun _ _ _ h => h) (Or.inl ⟨by rfl, ?_⟩) ?_ ?_
                        rotate_left
                        ·intro w'
                         go_simp
                         with_reducible rfl
                        rotate_left
                        ·simp only [Act.put, zA8_, zB8_, zC8_, i64_w, i32_w]
                         rfl
                        refine pure_ (i := 7) (N := some 128) (v := ?_) (a' := ?_) (bq_8_ 32 255) rfl rfl (any_of HT_.out (by kernel_rfl)) (fun _ _ _ h => h) (Or.inl ⟨by rfl, ?_⟩) ?_ ?_
                        rotate_left
                        ·intro w'
                         go_simp
                         with_reducible rfl
                        rotate_left
                        ·simp only [Act.put, zA8_, zB8_, zC8_, i64_w, i32_w]
                         rfl
                        refine pure_ (i := 8) (N := some 129) (v := ?_) (a' := ?_) (bq_8_ 32 511) rfl rfl (any_of HT_.out (by kernel_rfl)) (fun _ _ _ h => h) (Or.inl ⟨by rfl, ?_⟩) ?_ ?_
                        rotate_left
                        ·intro w'
                         go_simp
                         with_reducible rfl
                        rotate_left
                        ·simp only [Act.put, zA8_, zB8_, zC8_, i64_w, i32_w]
                         rfl
                        refine pure_ (i := 9) (N := some 130) (v := ?_) (a' := ?_) (bq_8_ 32 1023) rfl rfl (any_of HT_.out (by kernel_rfl)) (fun _ _ _ h => h) (Or.inl ⟨by rfl, ?_⟩) ?_ ?_
                        rotate_left
                        ·intro w'
                         go_simp
                         with_reducible rfl
                        rotate_left
                        ·simp only [Act.put, zA8_, zB8_, zC8_, i64_w, i32_w]
                         rfl
                        refine pure_ (i := 10) (N := some 131) (v := ?_) (a' := ?_) (bq_8_ 32 2047) rfl rfl (any_of HT_.out (by kernel_rfl)) (fun _ _ _ h => h) (Or.inl ⟨by rfl, ?_⟩) ?_ ?_
                        rotate_left
                        ·intro w'
                         go_simp
                         with_reducible rfl
                        rotate_left
                        ·simp only [Act.put, zA8_, zB8_, zC8_, i64_w, i32_w]
                         rfl
                        refine pure_ (i := 11) (N := some 132) (v := ?_) (a' := ?_) (bq_8_ 32 4095) rfl rfl (any_of HT_.out (by kernel_rfl)) (fun _ _ _ h => h) (Or.inl ⟨by rfl, ?_⟩) ?_ ?_
                        rotate_left
                        ·intro w'
                         go_simp
                         with_reducible rfl
                        rotate_left
                        ·simp only [Act.put, zA8_, zB8_, zC8_, i64_w, i32_w]
                         rfl
                        refine pure_ (i := 14) (N := some 135) (v := ?_) (a' := ?_) (bq_8_ 32 20479) rfl rfl (any_of HT_.out (by kernel_rfl)) (fun _ _ _ h => h) (Or.inl ⟨by rfl, ?_⟩) ?_ ?_
                        rotate_left
                        ·intro w'
                         go_simp
                         with_reducible rfl
                        rotate_left
                        ·simp only [Act.put, zA8_, zB8_, zC8_, i64_w, i32_w]
                         rfl
                        refine pure_ (i := 15) (N := some 136) (v := ?_) (a' := ?_) (bq_8_ 32 53247) rfl rfl (any_of HT_.out (by kernel_rfl)) (fun _ _ _ h => h) (Or.inl ⟨by rfl, ?_⟩) ?_ ?_
                        rotate_left
                        ·intro w'
                         go_simp
                         with_reducible rfl
                        rotate_left
                        ·simp only [Act.put, zA8_, zB8_, zC8_, i64_w, i32_w]
                         rfl
                        refine pure_ (i := 16) (N := some 137) (v := ?_) (a' := ?_) (bq_8_ 32 118783) rfl rfl (any_of HT_.out (by kernel_rfl)) (fun _ _ _ h => h) (Or.inl ⟨by rfl, ?_⟩) ?_ ?_
                        rotate_left
                        ·intro w'
                         go_simp
                         with_reducible rfl
                        rotate_left
                        ·simp only [Act.put, zA8_, zB8_, zC8_, i64_w, i32_w]
                         rfl
                        refine one_ (i := 12) (N := some 133) (bq_8_ 32 122879) rfl rfl (one_of HT_.out (by kernel_rfl)) (by decide) (fun K hK => ?_)
                        refine Kd.R_lit_step (Kd.int .u64) _ 22 ?hg (N := 133) ?hd (xs := ([t175] : List Int)) (inner := [.int .u64 t175]) (ok := fun _ => True) (okp := fun _ => True) ?hr ?hp (fun _ hk => hk) trivial (Below.refl _ _) (Nat.le_refl _) (by simp) ?_; (case hd => rfl); (case hg => rfl); (case hr => first | (go_simp; done) | (go_simp; rfl)); (case hp => exact (Reps.one (show Kd.M (Kd.int .u64) _ _ _ t175 [.int .u64 t175] from rfl) (Reps.none _ _)))
                        intro v179 w70 ho71 hb hg_ hnew_
                        clear hg_ hnew_
                        (first | rw [← Ny178.out] at ho71 | (simp only [Int.reduceToNat] at ho71; rw [← Ny178.out] at ho71))
                        have n0_ := Aside0.mk (Kd.R_lower ho71 (below_size (by repeat (first | (with_reducible first | exact HB.out | apply below_alloc | apply pw_below_drewN | apply below_drew1) | exact HB.out))))
                        have n1_ := Aside0.mk (below_step (by repeat (first | (with_reducible first | exact HB.out | apply below_alloc | apply pw_below_drewN | apply below_drew1) | exact HB.out)) hb)
                        clear HB
                        have HO180 := n0_
                        have HB := n1_
                        clear n0_ n1_
                        clear hb ho71
                        obtain ⟨Ao72, co72, eo72⟩ := Kd.R_slice HO180.out
                        (first | subst eo72 | (injection eo72 with f1_ f2_ f3_; have f4_ := f1_.symm; have f5_ := f3_.symm; clear f1_ f2_ f3_; subst f4_; subst f5_))
                        refine hK.out _ _ trivial (fun hHeld => ?_)
                        clear hK K
                        refine norm_ (a' := ?_) ?_ ?_
                        rotate_left
                        ·show Act.put _ (some 133) _ = _
                         simp only [Act.put, zA8_, zB8_, zC8_, i64_w, i32_w]
                         rfl
                        refine one_ (i := 13) (N := some 134) (bq_8_ 32 131071) rfl rfl (one_of HT_.out (by kernel_rfl)) (by decide) (fun K hK => ?_)
                        refine goes_ Try.func9 (by kernel_rfl) rfl #[.slice Ao72 y178.length co72] (by rfl) rfl rfl (by (try simp only [List.map_toArray, List.map_cons, List.map_nil]); first | done | rfl | (simp only [List.length_drop, List.length_take]; rfl)) ?_
                        with_reducible refine (num_V.calls _ _ y178 t181 _ ?side1 ?side2 A43.out).mono ?_
                        (case side1 => repeat (first | exact (Kd.R_reads' HO180.out).2.2 | (with_reducible refine Kd.C_alloc ?_ _) | (with_reducible refine Kd.C_drewN ?_ _) | (with_reducible refine Kd.C_drew ?_)))
                        (case side2 => exact (Kd.R_reads' HO180.out).2.1)
                        rintro e w73 ⟨rfl, hb⟩
                        refine ⟨_, rfl, ?_⟩
                        have n0_ := Aside0.mk (Kd.R_below (by (with_reducible repeat (first | apply Kd.R_alloc | apply Kd.R_drewN | apply Kd.R_drew)); exact HO180.out) hb)
                        have n1_ := Aside0.mk (below_step (by repeat (first | (with_reducible first | exact HB.out | apply below_alloc | apply pw_below_drewN | apply below_drew1) | exact HB.out)) hb)
                        clear HO180
                        clear HB
                        have HO180 := n0_
                        have HB := n1_
                        clear n0_ n1_
                        (try clear hb)
                        (try clear hb2)
                        (try clear hk)
                        (try clear hi)
                        refine hK.out _ _ trivial (fun hHeld => ?_)
                        clear hK K
                        refine norm_ (a' := ?_) ?_ ?_
                        rotate_left
                        ·show Act.put _ (some 134) _ = _
                         simp only [Act.put, zA8_, zB8_, zC8_, i64_w, i32_w]
                         rfl
                        refine pure_ (i := 17) (N := some 138) (v := ?_) (a' := ?_) (bq_8_ 32 262143) rfl rfl (any_of HT_.out (by kernel_rfl)) (fun _ _ _ h => h) (Or.inl ⟨by rfl, ?_⟩) ?_ ?_
                        rotate_left
                        ·intro w'
                         go_simp
                         with_reducible rfl
                        rotate_left
                        ·simp only [Act.put, zA8_, zB8_, zC8_, i64_w, i32_w]
                         rfl
                        refine pure_ (i := 18) (N := some 139) (v := ?_) (a' := ?_) (bq_8_ 32 524287) rfl rfl (any_of HT_.out (by kernel_rfl)) (fun _ _ _ h => h) (Or.inl ⟨by rfl, ?_⟩) ?_ ?_
                        rotate_left
                        ·intro w'
                         go_simp
                         with_reducible rfl
                        rotate_left
                        ·simp only [Act.put, zA8_, zB8_, zC8_, i64_w, i32_w]
                         rfl
                        refine pure_ (i := 19) (N := some 140) (v := ?_) (a' := ?_) (bq_8_ 32 1048575) rfl rfl (any_of HT_.out (by kernel_rfl)) (fun _ _ _ h => h) (Or.inl ⟨by rfl, ?_⟩) ?_ ?_
                        rotate_left
                        ·intro w'
                         go_simp
                         with_reducible rfl
                        rotate_left
                        ·simp only [Act.put, zA8_, zB8_, zC8_, i64_w, i32_w]
                         rfl
                        refine pure_ (i := 20) (N := some 141) (v := ?_) (a' := ?_) (bq_8_ 32 2097151) rfl rfl (any_of HT_.out (by kernel_rfl)) (fun _ _ _ h => h) (Or.inl ⟨by rfl, ?_⟩) ?_ ?_
                        rotate_left
                        ·intro w'
                         go_simp
                         with_reducible rfl
                        rotate_left
                        ·simp only [Act.put, zA8_, zB8_, zC8_, i64_w, i32_w]
                         rfl
                        refine pure_ (i := 21) (N := some 142) (v := ?_) (a' := ?_) (bq_8_ 32 4194303) rfl rfl (any_of HT_.out (by kernel_rfl)) (fun _ _ _ h => h) (Or.inl ⟨by rfl, ?_⟩) ?_ ?_
                        rotate_left
                        ·intro w'
                         go_simp
                         with_reducible rfl
                        rotate_left
                        ·simp only [Act.put, zA8_, zB8_, zC8_, i64_w, i32_w]
                         rfl
                        refine pure_ (i := 22) (N := some 143) (v := ?_) (a' := ?_) (bq_8_ 32 8388607) rfl rfl (any_of HT_.out (by kernel_rfl)) (fun _ _ _ h => h) (Or.inl ⟨by rfl, ?_⟩) ?_ ?_
                        rotate_left
                        ·intro w'
                         go_simp
                         with_reducible rfl
                        rotate_left
                        ·simp only [Act.put, zA8_, zB8_, zC8_, i64_w, i32_w]
                         rfl
                        refine pure_ (i := 23) (N := some 144) (v := ?_) (a' := ?_) (bq_8_ 32 16777215) rfl rfl (any_of HT_.out (by kernel_rfl)) (fun _ _ _ h => h) (Or.inl ⟨by rfl, ?_⟩) ?_ ?_
                        rotate_left
                        ·intro w'
                         go_simp
                         with_reducible rfl
                        rotate_left
                        ·simp only [Act.put, zA8_, zB8_, zC8_, i64_w, i32_w]
                         rfl
                        refine pure_ (i := 24) (N := some 145) (v := undef) (a' := ?_) (bq_8_ 32 33554431) rfl rfl (any_of HT_.out (by kernel_rfl)) (fun _ _ _ h => h) (Or.inr ⟨by rfl, rfl⟩) ?_ ?_
                        rotate_left
                        ·simp only [Act.put, zA8_, zB8_, zC8_, i64_w, i32_w]
                         rfl
                        refine pure_ (i := 25) (N := some 146) (v := undef) (a' := ?_) (bq_8_ 32 67108863) rfl rfl (any_of HT_.out (by kernel_rfl)) (fun _ _ _ h => h) (Or.inr ⟨by rfl, rfl⟩) ?_ ?_
                        rotate_left
                        ·simp only [Act.put, zA8_, zB8_, zC8_, i64_w, i32_w]
                         rfl
                        refine pure_ (i := 26) (N := some 147) (v := undef) (a' := ?_) (bq_8_ 32 134217727) rfl rfl (any_of HT_.out (by kernel_rfl)) (fun _ _ _ h => h) (Or.inr ⟨by rfl, rfl⟩) ?_ ?_
                        rotate_left
                        ·simp only [Act.put, zA8_, zB8_, zC8_, i64_w, i32_w]
                         rfl
                        refine pure_ (i := 27) (N := some 148) (v := undef) (a' := ?_) (bq_8_ 32 268435455) rfl rfl (any_of HT_.out (by kernel_rfl)) (fun _ _ _ h => h) (Or.inr ⟨by rfl, rfl⟩) ?_ ?_
                        rotate_left
                        ·simp only [Act.put, zA8_, zB8_, zC8_, i64_w, i32_w]
                         rfl
                        refine pure_ (i := 28) (N := some 149) (v := undef) (a' := ?_) (bq_8_ 32 536870911) rfl rfl (any_of HT_.out (by kernel_rfl)) (fun _ _ _ h => h) (Or.inr ⟨by rfl, rfl⟩) ?_ ?_
                        rotate_left
                        ·simp only [Act.put, zA8_, zB8_, zC8_, i64_w, i32_w]
                         rfl
                        refine pure_ (i := 29) (N := some 150) (v := undef) (a' := ?_) (bq_8_ 32 1073741823) rfl rfl (any_of HT_.out (by kernel_rfl)) (fun _ _ _ h => h) (Or.inr ⟨by rfl, rfl⟩) ?_ ?_
                        rotate_left
                        ·simp only [Act.put, zA8_, zB8_, zC8_, i64_w, i32_w]
                         rfl
                        refine pure_ (i := 30) (N := some 151) (v := ?_) (a' := ?_) (bq_8_ 32 2147483647) rfl rfl (any_of HT_.out (by kernel_rfl)) (fun _ _ _ h => h) (Or.inl ⟨by rfl, ?_⟩) ?_ ?_
                        rotate_left
                        ·intro w'
                         go_simp
                         with_reducible rfl
                        rotate_left
                        ·simp only [Act.put, zA8_, zB8_, zC8_, i64_w, i32_w]
                         rfl
                        refine pure_ (i := 31) (N := some 152) (v := ?_) (a' := ?_) (bq_8_ 32 4294967295) rfl rfl (any_of HT_.out (by kernel_rfl)) (fun _ _ _ h => h) (Or.inl ⟨by rfl, ?_⟩) ?_ ?_
                        rotate_left
                        ·intro w'
                         go_simp
                         with_reducible rfl
                        rotate_left
                        ·simp only [Act.put, zA8_, zB8_, zC8_, i64_w, i32_w]
                         rfl
                        refine done_ (done_of HT_.out (by kernel_rfl)) ?_
                        try go_wp2_with (first | ((with_reducible refine gate_callee (f := 18) rfl ?_); refine goesL_ (some 155) rfl rfl Try.func18 (by kernel_rfl) rfl #[.string x2_9] rfl (by (try simp only [List.map_toArray, List.map_cons, List.map_nil]); first | done | rfl | (simp only [List.length_drop, List.length_take]; rfl)) ?_; (with_reducible refine (num_ReadS.calls k4 x2_9 t182 t183 false _ A47.out).mono ?_); rintro e w' ⟨rfl, ⟨nd, rfl⟩⟩; refine ⟨_, rfl, ?_⟩))
                        (try (rw [drewN_self w73]; generalize hq_ : World.drewN w73 _ = w73; have n0_ : Aside0 (Kd.R (Kd.int .u64) 22 w73 w.heap.size (fun _ => True) (.slice Ao72 y178.length co72) y178) := ⟨by rw [← hq_]; exact (by (with_reducible repeat (first | apply Kd.R_alloc | apply Kd.R_drewN | apply Kd.R_drew)); exact HO180.out)⟩; have n1_ : Aside0 (Below w.heap.size w w73) := ⟨by rw [← hq_]; exact (by repeat (first | (with_reducible first | exact HB.out | apply below_alloc | apply pw_below_drewN | apply below_drew1) | exact HB.out))⟩; clear HO180 HB hq_; have HO180 := n0_; have HB := n1_; clear n0_ n1_))
                        have n0_ := Aside0.mk (Kd.R_drew HO180.out)
                        have n1_ := Aside0.mk (below_drew1 HB.out)
                        clear HO180
                        clear HB
                        have HO180 := n0_
                        have HB := n1_
                        clear n0_ n1_
                        refine start_ (n := 32) (S := fun w' => True) (ds := []) #[false, false, false, false, false, false, false, false, false, false, false, false, false, false, false, false, false, false, false, false, false, false, false, false, false, false, false, false, false, false, false, false] (by kernel_rfl) rfl rfl trivial (fun hHeld => ?_); refine with_tabW wapentakelaw01_NumBack.tab26 wapentakelaw01_NumBack.bits26 (fun HT_ HW_ => ?_)
                        generalize w73.drew = w74 at HO180 HB hHeld ⊢
                        refine pure_ (i := 0) (N := some 159) (v := ?_) (a' := ?_) (bq_8_ 32 1) rfl rfl (any_of HT_.out (by kernel_rfl)) (fun _ _ _ h => h) (Or.inl ⟨by rfl, ?_⟩) ?_ ?_
                        rotate_left
                        ·intro w'
                         go_simp
                         with_reducible rfl
                        rotate_left
                        ·simp only [Act.put, zA8_, zB8_, zC8_, i64_w, i32_w]
                         rfl
                        refine pure_ (i := 1) (N := some 160) (v := ?_) (a' := ?_) (bq_8_ 32 3) rfl rfl (any_of HT_.out (by kernel_rfl)) (fun _ _ _ h => h) (Or.inl ⟨by rfl, ?_⟩) ?_ ?_
                        rotate_left
                        ·intro w'
                         go_simp
                         with_reducible rfl
                        rotate_left
                        ·simp only [Act.put, zA8_, zB8_, zC8_, i64_w, i32_w]
                         rfl
                        refine pure_ (i := 2) (N := some 161) (v := ?_) (a' := ?_) (bq_8_ 32 7) rfl rfl (any_of HT_.out (by kernel_rfl)) (fun _ _ _ h => h) (Or.inl ⟨by rfl, ?_⟩) ?_ ?_
                        rotate_left
                        ·intro w'
                         go_simp
                         with_reducible rfl
                        rotate_left
                        ·simp only [Act.put, zA8_, zB8_, zC8_, i64_w, i32_w]
                         rfl
                        refine pure_ (i := 3) (N := some 162) (v := ?_) (a' := ?_) (bq_8_ 32 15) rfl rfl (any_of HT_.out (by kernel_rfl)) (fun _ _ _ h => h) (Or.inl ⟨by rfl, ?_⟩) ?_ ?_
                        rotate_left
                        ·intro w'
                         go_simp
                         with_reducible rfl
                        rotate_left
                        ·simp only [Act.put, zA8_, zB8_, zC8_, i64_w, i32_w]
                         rfl
                        refine pure_ (i := 4) (N := some 163) (v := ?_) (a' := ?_) (bq_8_ 32 31) rfl rfl (any_of HT_.out (by kernel_rfl)) (fun _ _ _ h => h) (Or.inl ⟨by rfl, ?_⟩) ?_ ?_
                        rotate_left
                        ·intro w'
                         go_simp
                         with_reducible rfl
                        rotate_left
                        ·simp only [Act.put, zA8_, zB8_, zC8_, i64_w, i32_w]
                         rfl
                        refine pure_ (i := 5) (N := some 164) (v := ?_) (a' := ?_) (bq_8_ 32 63) rfl rfl (any_of HT_.out (by kernel_rfl)) (fun _ _ _ h => h) (Or.inl ⟨by rfl, ?_⟩) ?_ ?_
                        rotate_left
                        ·intro w'
                         go_simp
                         with_reducible rfl
                        rotate_left
                        ·simp only [Act.put, zA8_, zB8_, zC8_, i64_w, i32_w]
                         rfl
                        refine pure_ (i := 6) (N := some 165) (v := ?_) (a' := ?_) (bq_8_ 32 127) rfl rfl (any_of HT_.out (by kernel_rfl)) (fun _ _ _ h => h) (Or.inl ⟨by rfl, ?_⟩) ?_ ?_
                        rotate_left
                        ·intro w'
                         go_simp
                         with_reducible rfl
                        rotate_left
                        ·simp only [Act.put, zA8_, zB8_, zC8_, i64_w, i32_w]
                         rfl
                        refine pure_ (i := 7) (N := some 166) (v := ?_) (a' := ?_) (bq_8_ 32 255) rfl rfl (any_of HT_.out (by kernel_rfl)) (fun _ _ _ h => h) (Or.inl ⟨by rfl, ?_⟩) ?_ ?_
                        rotate_left
                        ·intro w'
                         go_simp
                         with_reducible rfl
                        rotate_left
                        ·simp only [Act.put, zA8_, zB8_, zC8_, i64_w, i32_w]
                         rfl
                        refine pure_ (i := 8) (N := some 167) (v := ?_) (a' := ?_) (bq_8_ 32 511) rfl rfl (any_of HT_.out (by kernel_rfl)) (fun _ _ _ h => h) (Or.inl ⟨by rfl, ?_⟩) ?_ ?_
                        rotate_left
                        ·intro w'
                         go_simp
                         with_reducible rfl
                        rotate_left
                        ·simp only [Act.put, zA8_, zB8_, zC8_, i64_w, i32_w]
                         rfl
                        refine pure_ (i := 9) (N := some 168) (v := ?_) (a' := ?_) (bq_8_ 32 1023) rfl rfl (any_of HT_.out (by kernel_rfl)) (fun _ _ _ h => h) (Or.inl ⟨by rfl, ?_⟩) ?_ ?_
                        rotate_left
                        ·intro w'
                         go_simp
                         with_reducible rfl
                        rotate_left
                        ·simp only [Act.put, zA8_, zB8_, zC8_, i64_w, i32_w]
                         rfl
                        refine pure_ (i := 10) (N := some 169) (v := ?_) (a' := ?_) (bq_8_ 32 2047) rfl rfl (any_of HT_.out (by kernel_rfl)) (fun _ _ _ h => h) (Or.inl ⟨by rfl, ?_⟩) ?_ ?_
                        rotate_left
                        ·intro w'
                         go_simp
                         with_reducible rfl
                        rotate_left
                        ·simp only [Act.put, zA8_, zB8_, zC8_, i64_w, i32_w]
                         rfl
                        refine pure_ (i := 11) (N := some 170) (v := undef) (a' := ?_) (bq_8_ 32 4095) rfl rfl (any_of HT_.out (by kernel_rfl)) (fun _ _ _ h => h) (Or.inr ⟨by rfl, rfl⟩) ?_ ?_
                        rotate_left
                        ·simp only [Act.put, zA8_, zB8_, zC8_, i64_w, i32_w]
                         rfl
                        refine pure_ (i := 12) (N := some 171) (v := undef) (a' := ?_) (bq_8_ 32 8191) rfl rfl (any_of HT_.out (by kernel_rfl)) (fun _ _ _ h => h) (Or.inr ⟨by rfl, rfl⟩) ?_ ?_
                        rotate_left
                        ·simp only [Act.put, zA8_, zB8_, zC8_, i64_w, i32_w]
                         rfl
                        refine pure_ (i := 13) (N := some 172) (v := undef) (a' := ?_) (bq_8_ 32 16383) rfl rfl (any_of HT_.out (by kernel_rfl)) (fun _ _ _ h => h) (Or.inr ⟨by rfl, rfl⟩) ?_ ?_
                        rotate_left
                        ·simp only [Act.put, zA8_, zB8_, zC8_, i64_w, i32_w]
                         rfl
                        refine pure_ (i := 14) (N := some 173) (v := undef) (a' := ?_) (bq_8_ 32 32767) rfl rfl (any_of HT_.out (by kernel_rfl)) (fun _ _ _ h => h) (Or.inr ⟨by rfl, rfl⟩) ?_ ?_
                        rotate_left
                        ·simp only [Act.put, zA8_, zB8_, zC8_, i64_w, i32_w]
                         rfl
                        refine pure_ (i := 15) (N := some 174) (v := undef) (a' := ?_) (bq_8_ 32 65535) rfl rfl (any_of HT_.out (by kernel_rfl)) (fun _ _ _ h => h) (Or.inr ⟨by rfl, rfl⟩) ?_ ?_
                        rotate_left
                        ·simp only [Act.put, zA8_, zB8_, zC8_, i64_w, i32_w]
                         rfl
                        refine pure_ (i := 16) (N := some 175) (v := undef) (a' := ?_) (bq_8_ 32 131071) rfl rfl (any_of HT_.out (by kernel_rfl)) (fun _ _ _ h => h) (Or.inr ⟨by rfl, rfl⟩) ?_ ?_
                        rotate_left
                        ·simp only [Act.put, zA8_, zB8_, zC8_, i64_w, i32_w]
                         rfl
                        refine pure_ (i := 17) (N := some 176) (v := undef) (a' := ?_) (bq_8_ 32 262143) rfl rfl (any_of HT_.out (by kernel_rfl)) (fun _ _ _ h => h) (Or.inr ⟨by rfl, rfl⟩) ?_ ?_
                        rotate_left
                        ·simp only [Act.put, zA8_, zB8_, zC8_, i64_w, i32_w]
                         rfl
                        refine pure_ (i := 18) (N := some 177) (v := undef) (a' := ?_) (bq_8_ 32 524287) rfl rfl (any_of HT_.out (by kernel_rfl)) (fun _ _ _ h => h) (Or.inr ⟨by rfl, rfl⟩) ?_ ?_
                        rotate_left
                        ·simp only [Act.put, zA8_, zB8_, zC8_, i64_w, i32_w]
                         rfl
                        refine pure_ (i := 19) (N := some 178) (v := undef) (a' := ?_) (bq_8_ 32 1048575) rfl rfl (any_of HT_.out (by kernel_rfl)) (fun _ _ _ h => h) (Or.inr ⟨by rfl, rfl⟩) ?_ ?_
                        rotate_left
                        ·simp only [Act.put, zA8_, zB8_, zC8_, i64_w, i32_w]
                         rfl
                        refine pure_ (i := 20) (N := some 179) (v := undef) (a' := ?_) (bq_8_ 32 2097151) rfl rfl (any_of HT_.out (by kernel_rfl)) (fun _ _ _ h => h) (Or.inr ⟨by rfl, rfl⟩) ?_ ?_
                        rotate_left
                        ·simp only [Act.put, zA8_, zB8_, zC8_, i64_w, i32_w]
                         rfl
                        refine pure_ (i := 21) (N := some 180) (v := undef) (a' := ?_) (bq_8_ 32 4194303) rfl rfl (any_of HT_.out (by kernel_rfl)) (fun _ _ _ h => h) (Or.inr ⟨by rfl, rfl⟩) ?_ ?_
                        rotate_left
                        ·simp only [Act.put, zA8_, zB8_, zC8_, i64_w, i32_w]
                         rfl
                        refine pure_ (i := 22) (N := some 181) (v := undef) (a' := ?_) (bq_8_ 32 8388607) rfl rfl (any_of HT_.out (by kernel_rfl)) (fun _ _ _ h => h) (Or.inr ⟨by rfl, rfl⟩) ?_ ?_
                        rotate_left
                        ·simp only [Act.put, zA8_, zB8_, zC8_, i64_w, i32_w]
                         rfl
                        refine pure_ (i := 23) (N := some 182) (v := undef) (a' := ?_) (bq_8_ 32 16777215) rfl rfl (any_of HT_.out (by kernel_rfl)) (fun _ _ _ h => h) (Or.inr ⟨by rfl, rfl⟩) ?_ ?_
                        rotate_left
                        ·simp only [Act.put, zA8_, zB8_, zC8_, i64_w, i32_w]
                         rfl
                        refine pure_ (i := 24) (N := some 183) (v := undef) (a' := ?_) (bq_8_ 32 33554431) rfl rfl (any_of HT_.out (by kernel_rfl)) (fun _ _ _ h => h) (Or.inr ⟨by rfl, rfl⟩) ?_ ?_
                        rotate_left
                        ·simp only [Act.put, zA8_, zB8_, zC8_, i64_w, i32_w]
                         rfl
                        refine pure_ (i := 25) (N := some 184) (v := undef) (a' := ?_) (bq_8_ 32 67108863) rfl rfl (any_of HT_.out (by kernel_rfl)) (fun _ _ _ h => h) (Or.inr ⟨by rfl, rfl⟩) ?_ ?_
                        rotate_left
                        ·simp only [Act.put, zA8_, zB8_, zC8_, i64_w, i32_w]
                         rfl
                        refine pure_ (i := 26) (N := some 185) (v := undef) (a' := ?_) (bq_8_ 32 134217727) rfl rfl (any_of HT_.out (by kernel_rfl)) (fun _ _ _ h => h) (Or.inr ⟨by rfl, rfl⟩) ?_ ?_
                        rotate_left
                        ·simp only [Act.put, zA8_, zB8_, zC8_, i64_w, i32_w]
                         rfl
                        refine pure_ (i := 27) (N := some 186) (v := ?_) (a' := ?_) (bq_8_ 32 268435455) rfl rfl (any_of HT_.out (by kernel_rfl)) (fun _ _ _ h => h) (Or.inl ⟨by rfl, ?_⟩) ?_ ?_
                        rotate_left
                        ·intro w'
                         go_simp
                         with_reducible rfl
                        rotate_left
                        ·simp only [Act.put, zA8_, zB8_, zC8_, i64_w, i32_w]
                         rfl
                        refine pure_ (i := 28) (N := some 187) (v := ?_) (a' := ?_) (bq_8_ 32 536870911) rfl rfl (any_of HT_.out (by kernel_rfl)) (fun _ _ _ h => h) (Or.inl ⟨by rfl, ?_⟩) ?_ ?_
                        rotate_left
                        ·intro w'
                         go_simp
                         with_reducible rfl
                        rotate_left
                        ·simp only [Act.put, zA8_, zB8_, zC8_, i64_w, i32_w]
                         rfl
                        refine one_ (i := 29) (N := some 188) (bq_8_ 32 1073741823) rfl rfl (one_of HT_.out (by kernel_rfl)) (by decide) (fun K hK => ?_)
                        refine goes_ Try.func10 (by kernel_rfl) rfl #[] (by rfl) rfl rfl (by (try simp only [List.map_toArray, List.map_cons, List.map_nil]); first | done | rfl | (simp only [List.length_drop, List.length_take]; rfl)) ?_
                        with_reducible refine (wapentakelaw01_awake.calls k4  t190 _ A68.out).mono ?_
                        rintro e w75 ⟨rfl, hb⟩
                        refine ⟨_, rfl, ?_⟩
                        have n0_ := Aside0.mk (Kd.R_below (by (with_reducible repeat (first | apply Kd.R_alloc | apply Kd.R_drewN | apply Kd.R_drew)); exact HO180.out) hb)
                        have n1_ := Aside0.mk (below_step (by repeat (first | (with_reducible first | exact HB.out | apply below_alloc | apply pw_below_drewN | apply below_drew1) | exact HB.out)) hb)
                        clear HO180
                        clear HB
                        have HO180 := n0_
                        have HB := n1_
                        clear n0_ n1_
                        (try clear hb)
                        (try clear hb2)
                        (try clear hk)
                        (try clear hi)
                        refine hK.out _ _ trivial (fun hHeld => ?_)
                        clear hK K
                        refine norm_ (a' := ?_) ?_ ?_
                        rotate_left
                        ·show Act.put _ (some 188) _ = _
                         simp only [Act.put, zA8_, zB8_, zC8_, i64_w, i32_w]
                         rfl
                        refine pure_ (i := 30) (N := some 189) (v := ?_) (a' := ?_) (bq_8_ 32 2147483647) rfl rfl (any_of HT_.out (by kernel_rfl)) (fun _ _ _ h => h) (Or.inl ⟨by rfl, ?_⟩) ?_ ?_
                        rotate_left
                        ·intro w'
                         go_simp
                         with_reducible rfl
                        rotate_left
                        ·simp only [Act.put, zA8_, zB8_, zC8_, i64_w, i32_w]
                         rfl
                        refine pure_ (i := 31) (N := some 6) (v := ?_) (a' := ?_) (bq_8_ 32 4294967295) rfl rfl (any_of HT_.out (by kernel_rfl)) (fun _ _ _ h => h) (Or.inl ⟨by rfl, ?_⟩) ?_ ?_
                        rotate_left
                        ·intro w'
                         go_simp
                         with_reducible rfl
                        rotate_left
                        ·simp only [Act.put, zA8_, zB8_, zC8_, i64_w, i32_w]
                         rfl
                        refine done_ (done_of HT_.out (by kernel_rfl)) ?_
                        try go_wp2
                        go_ret
                        exact ⟨by first | rfl | (simp [errW_none, errW_some] <;> rfl) | (simp [*, errW_none, errW_some] <;> rfl), by repeat (first | (with_reducible first | exact HB.out | apply below_alloc | apply pw_below_drewN | apply below_drew1) | exact HB.out)⟩
                       ·rw [if_neg c67] at H
                        have c67b0 : (t183 == 0) = false := beq_eq_false_iff_ne.mpr c67
                        have c67b1 : (t183 != 0) = true := bne_iff_ne.mpr c67
                        exact absurd (Option.some.inj H) (by rw [hr_]; decide)
                      ·rw [if_neg c66] at H
                       have c66b0 : (t182.toList == ([] : List UInt8)) = false := beq_eq_false_iff_ne.mpr c66
                       have c66b1 : (t182.toList != ([] : List UInt8)) = true := bne_iff_ne.mpr c66
                       exact absurd (Option.some.inj H) (by rw [hr_]; decide)
                    ·rw [if_neg c46] at H
                     have c46b0 : (t181.toList == (x2_9.extract 0 (t176 : Int).toNat).toList) = false := beq_eq_false_iff_ne.mpr c46
                     have c46b1 : (t181.toList != (x2_9.extract 0 (t176 : Int).toNat).toList) = true := bne_iff_ne.mpr c46
                     exact absurd (Option.some.inj H) (by rw [hr_]; decide)
                   ·rw [if_neg c45] at H
                    exact absurd H (by simp)
                  ·rw [if_neg c44] at H
                   exact absurd H (by simp)
               ·replace c40 := Bool.eq_false_iff.mpr c40
                subst c40
                have H1 : (if t175 = 0 then (if t176 = 0 then ((num_ReadS.f k4 x2_9).bind fun bt191 => (if bt191.2.2 = true then (if bt191.2.1 ≤ (x2_9.size : Int) then ((num_S.f k4 (([bt191.1] : List ByteArray))).bind fun t197 => (if 0 ≤ bt191.2.1 then (if t197.toList = (x2_9.extract 0 (bt191.2.1 : Int).toNat).toList then ((wapentakelaw01_awake.f k4).bind fun t198 => (some t198)) else (some false)) else (none))) else (some false)) else (if bt191.1.toList = ([] : List UInt8) then (if bt191.2.1 = 0 then ((wapentakelaw01_awake.f k4).bind fun t199 => (some t199)) else (some false)) else (some false)))) else (some false)) else (some false)) = some r := by rw [if_neg (show ¬ (false = true) by decide)] at H; exact H
                clear H
                have H := H1
                clear H1
                by_cases c76 : t175 = 0
                ·rw [if_pos c76] at H
                 have c76b0 : (t175 == 0) = true := beq_iff_eq.mpr c76
                 have c76b1 : (t175 != 0) = false := bne_eq_false_iff_eq.mpr c76
                 clear c76
                 by_cases c77 : t176 = 0
                 ·rw [if_pos c77] at H
                  have c77b0 : (t176 == 0) = true := beq_iff_eq.mpr c77
                  have c77b1 : (t176 != 0) = false := bne_eq_false_iff_eq.mpr c77
                  clear c77
                  replace H := Option.bind_eq_some_iff.mp H
                  obtain ⟨⟨t191, t192, t193⟩, A780, H⟩ := H
                  replace H : (if t193 = true then (if t192 ≤ (x2_9.size : Int) then ((num_S.f k4 (([t191] : List ByteArray))).bind fun t197 => (if 0 ≤ t192 then (if t197.toList = (x2_9.extract 0 (t192 : Int).toNat).toList then ((wapentakelaw01_awake.f k4).bind fun t198 => (some t198)) else (some false)) else (none))) else (some false)) else (if t191.toList = ([] : List UInt8) then (if t192 = 0 then ((wapentakelaw01_awake.f k4).bind fun t199 => (some t199)) else (some false)) else (some false))) = some r := H
                  have A78 := Aside0.mk A780
                  clear A780
                  by_cases c79 : t193 = true
                  ·subst c79
                   have H1 : (if t192 ≤ (x2_9.size : Int) then ((num_S.f k4 (([t191] : List ByteArray))).bind fun t197 => (if 0 ≤ t192 then (if t197.toList = (x2_9.extract 0 (t192 : Int).toNat).toList then ((wapentakelaw01_awake.f k4).bind fun t198 => (some t198)) else (some false)) else (none))) else (some false)) = some r := by rw [if_pos rfl] at H; exact H
                   clear H
                   have H := H1
                   clear H1
                   by_cases c80 : t192 ≤ (x2_9.size : Int)
                   ·rw [if_pos c80] at H
                    have c80b0 : decide (t192 ≤ (x2_9.size : Int)) = true := decide_eq_true c80
                    clear c80
                    obtain ⟨y194, hy194⟩ : ∃ y_ : List ByteArray, y_ = (([t191] : List ByteArray)) := ⟨_, rfl⟩
                    replace H : ((num_S.f k4 y194).bind fun t197 => (if 0 ≤ t192 then (if t197.toList = (x2_9.extract 0 (t192 : Int).toNat).toList then ((wapentakelaw01_awake.f k4).bind fun t198 => (some t198)) else (some false)) else (none))) = some r := by first | (rw [hy194]; with_reducible exact H) | (have H2_ := (Option.bind_some _ _).symm.trans H; rw [hy194]; with_reducible exact H2_) | (have H2_ := (Option.bind_some _ _).symm.trans H; with_reducible exact H2_) | with_reducible exact H | (rw [hy194]; exact H) | exact H
                    have Ny194 := Aside0.mk hy194
                    clear hy194
                    replace H := Option.bind_eq_some_iff.mp H
                    obtain ⟨t197, A810, H⟩ := H
                    replace H : (if 0 ≤ t192 then (if t197.toList = (x2_9.extract 0 (t192 : Int).toNat).toList then ((wapentakelaw01_awake.f k4).bind fun t198 => (some t198)) else (some false)) else (none)) = some r := H
                    have A81 := Aside0.mk A810
                    clear A810
                    by_cases c82 : 0 ≤ t192
                    ·rw [if_pos c82] at H
                     have c82b0 := eq_true c82
                     have c82b1 : decide (0 ≤ t192) = true := decide_eq_true c82
                     clear c82
                     have c83b0 := eq_true (of_decide_eq_true (by first | (with_reducible assumption) | assumption) : t192 ≤ (x2_9.size : Int))
                     by_cases c84 : t197.toList = (x2_9.extract 0 (t192 : Int).toNat).toList
                     ·rw [if_pos c84] at H
                      have c84b0 : (t197.toList == (x2_9.extract 0 (t192 : Int).toNat).toList) = true := beq_iff_eq.mpr c84
                      have c84b1 : (t197.toList != (x2_9.extract 0 (t192 : Int).toNat).toList) = false := bne_eq_false_iff_eq.mpr c84
                      clear c84
                      replace H := Option.bind_eq_some_iff.mp H
                      obtain ⟨t198, A850, H⟩ := H
                      replace H : (some t198) = some r := H
                      have A85 := Aside0.mk A850
                      clear A850
                      clear hr_
                      obtain rfl := Option.some.inj H
                      try go_wp2_with (first | ((with_reducible refine gate_callee (f := 17) rfl ?_); refine goesL_ (some 117) rfl rfl Try.func17 (by kernel_rfl) rfl #[.string x2_9] rfl (by (try simp only [List.map_toArray, List.map_cons, List.map_nil]); first | done | rfl | (simp only [List.length_drop, List.length_take]; rfl)) ?_; (with_reducible refine (num_ReadV.calls k4 x2_9 t175 t176 false _ A39.out).mono ?_); rintro e w' ⟨rfl, ⟨nd, rfl⟩⟩; refine ⟨_, rfl, ?_⟩))
                      (try (rw [drewN_self wr]; generalize hq_ : World.drewN wr _ = wr; have n0_ : Aside0 (Below w.heap.size w wr) := ⟨by rw [← hq_]; exact (by repeat (first | (with_reducible first | exact HB.out | apply below_alloc | apply pw_below_drewN | apply below_drew1) | exact HB.out))⟩; clear HB hq_; have HB := n0_; clear n0_))
                      have n0_ := Aside0.mk (below_drew1 HB.out)
                      clear HB
                      have HB := n0_
                      clear n0_
                      refine start_ (n := 32) (S := fun w' => True) (ds := []) #[false, false, false, false, false, false, false, false, false, false, false, false, false, false, false, false, false, false, false, false, false, false, false, false, false, false, false, false, false, false, false, false] (by kernel_rfl) rfl rfl trivial (fun hHeld => ?_); refine with_tabW wapentakelaw01_NumBack.tab23 wapentakelaw01_NumBack.bits23 (fun HT_ HW_ => ?_)
                      generalize wr.drew = w86 at HB hHeld ⊢
                      refine pure_ (i := 0) (N := some 121) (v := ?_) (a' := ?_) (bq_8_ 32 1) rfl rfl (any_of HT_.out (by kernel_rfl)) (fun _ _ _ h => h) (Or.inl ⟨by rfl, ?_⟩) ?_ ?_
                      rotate_left
                      ·intro w'
                       go_simp
                       with_reducible rfl
                      rotate_left
                      ·simp only [Act.put, zA8_, zB8_, zC8_, i64_w, i32_w]
                       rfl
                      refine pure_ (i := 1) (N := some 122) (v := ?_) (a' := ?_) (bq_8_ 32 3) rfl rfl (any_of HT_.out (by kernel_rfl)) (fun _ _ _ h => h) (Or.inl ⟨by rfl, ?_⟩) ?_ ?_
                      rotate_left
                      ·intro w'
                       go_simp
                       with_reducible rfl
                      rotate_left
                      ·simp only [Act.put, zA8_, zB8_, zC8_, i64_w, i32_w]
                       rfl
                      refine pure_ (i := 2) (N := some 123) (v := undef) (a' := ?_) (bq_8_ 32 7) rfl rfl (any_of HT_.out (by kernel_rfl)) (fun _ _ _ h => h) (Or.inr ⟨by rfl, rfl⟩) ?_ ?_
                      rotate_left
                      ·simp only [Act.put, zA8_, zB8_, zC8_, i64_w, i32_w]
                       rfl
                      refine pure_ (i := 3) (N := some 124) (v := undef) (a' := ?_) (bq_8_ 32 15) rfl rfl (any_of HT_.out (by kernel_rfl)) (fun _ _ _ h => h) (Or.inr ⟨by rfl, rfl⟩) ?_ ?_
                      rotate_left
                      ·simp only [Act.put, zA8_, zB8_, zC8_, i64_w, i32_w]
                       rfl
                      refine pure_ (i := 4) (N := some 125) (v := undef) (a' := ?_) (bq_8_ 32 31) rfl rfl (any_of HT_.out (by kernel_rfl)) (fun _ _ _ h => h) (Or.inr ⟨by rfl, rfl⟩) ?_ ?_
                      rotate_left
                      ·simp only [Act.put, zA8_, zB8_, zC8_, i64_w, i32_w]
                       rfl
                      refine pure_ (i := 5) (N := some 126) (v := undef) (a' := ?_) (bq_8_ 32 63) rfl rfl (any_of HT_.out (by kernel_rfl)) (fun _ _ _ h => h) (Or.inr ⟨by rfl, rfl⟩) ?_ ?_
                      rotate_left
                      ·simp only [Act.put, zA8_, zB8_, zC8_, i64_w, i32_w]
                       rfl
                      refine pure_ (i := 6) (N := some 127) (v := undef) (a' := ?_) (bq_8_ 32 127) rfl rfl (any_of HT_.out (by kernel_rfl)) (fun _ _ _ h => h) (Or.inr ⟨by rfl, rfl⟩) ?_ ?_
                      rotate_left
                      ·simp only [Act.put, zA8_, zB8_, zC8_, i64_w, i32_w]
                       rfl
                      refine pure_ (i := 7) (N := some 128) (v := undef) (a' := ?_) (bq_8_ 32 255) rfl rfl (any_of HT_.out (by kernel_rfl)) (fun _ _ _ h => h) (Or.inr ⟨by rfl, rfl⟩) ?_ ?_
                      rotate_left
                      ·simp only [Act.put, zA8_, zB8_, zC8_, i64_w, i32_w]
                       rfl
                      refine pure_ (i := 8) (N := some 129) (v := undef) (a' := ?_) (bq_8_ 32 511) rfl rfl (any_of HT_.out (by kernel_rfl)) (fun _ _ _ h => h) (Or.inr ⟨by rfl, rfl⟩) ?_ ?_
                      rotate_left
                      ·simp only [Act.put, zA8_, zB8_, zC8_, i64_w, i32_w]
                       rfl
                      refine pure_ (i := 9) (N := some 130) (v := undef) (a' := ?_) (bq_8_ 32 1023) rfl rfl (any_of HT_.out (by kernel_rfl)) (fun _ _ _ h => h) (Or.inr ⟨by rfl, rfl⟩) ?_ ?_
                      rotate_left
                      ·simp only [Act.put, zA8_, zB8_, zC8_, i64_w, i32_w]
                       rfl
                      refine pure_ (i := 10) (N := some 131) (v := undef) (a' := ?_) (bq_8_ 32 2047) rfl rfl (any_of HT_.out (by kernel_rfl)) (fun _ _ _ h => h) (Or.inr ⟨by rfl, rfl⟩) ?_ ?_
                      rotate_left
                      ·simp only [Act.put, zA8_, zB8_, zC8_, i64_w, i32_w]
                       rfl
                      refine pure_ (i := 11) (N := some 132) (v := undef) (a' := ?_) (bq_8_ 32 4095) rfl rfl (any_of HT_.out (by kernel_rfl)) (fun _ _ _ h => h) (Or.inr ⟨by rfl, rfl⟩) ?_ ?_
                      rotate_left
                      ·simp only [Act.put, zA8_, zB8_, zC8_, i64_w, i32_w]
                       rfl
                      refine pure_ (i := 12) (N := some 133) (v := undef) (a' := ?_) (bq_8_ 32 8191) rfl rfl (any_of HT_.out (by kernel_rfl)) (fun _ _ _ h => h) (Or.inr ⟨by rfl, rfl⟩) ?_ ?_
                      rotate_left
                      ·simp only [Act.put, zA8_, zB8_, zC8_, i64_w, i32_w]
                       rfl
                      refine pure_ (i := 13) (N := some 134) (v := undef) (a' := ?_) (bq_8_ 32 16383) rfl rfl (any_of HT_.out (by kernel_rfl)) (fun _ _ _ h => h) (Or.inr ⟨by rfl, rfl⟩) ?_ ?_
                      rotate_left
                      ·simp only [Act.put, zA8_, zB8_, zC8_, i64_w, i32_w]
                       rfl
                      refine pure_ (i := 14) (N := some 135) (v := undef) (a' := ?_) (bq_8_ 32 32767) rfl rfl (any_of HT_.out (by kernel_rfl)) (fun _ _ _ h => h) (Or.inr ⟨by rfl, rfl⟩) ?_ ?_
                      rotate_left
                      ·simp only [Act.put, zA8_, zB8_, zC8_, i64_w, i32_w]
                       rfl
                      refine pure_ (i := 15) (N := some 136) (v := undef) (a' := ?_) (bq_8_ 32 65535) rfl rfl (any_of HT_.out (by kernel_rfl)) (fun _ _ _ h => h) (Or.inr ⟨by rfl, rfl⟩) ?_ ?_
                      rotate_left
                      ·simp only [Act.put, zA8_, zB8_, zC8_, i64_w, i32_w]
                       rfl
                      refine pure_ (i := 16) (N := some 137) (v := undef) (a' := ?_) (bq_8_ 32 131071) rfl rfl (any_of HT_.out (by kernel_rfl)) (fun _ _ _ h => h) (Or.inr ⟨by rfl, rfl⟩) ?_ ?_
                      rotate_left
                      ·simp only [Act.put, zA8_, zB8_, zC8_, i64_w, i32_w]
                       rfl
                      refine pure_ (i := 17) (N := some 138) (v := undef) (a' := ?_) (bq_8_ 32 262143) rfl rfl (any_of HT_.out (by kernel_rfl)) (fun _ _ _ h => h) (Or.inr ⟨by rfl, rfl⟩) ?_ ?_
                      rotate_left
                      ·simp only [Act.put, zA8_, zB8_, zC8_, i64_w, i32_w]
                       rfl
                      refine pure_ (i := 18) (N := some 139) (v := undef) (a' := ?_) (bq_8_ 32 524287) rfl rfl (any_of HT_.out (by kernel_rfl)) (fun _ _ _ h => h) (Or.inr ⟨by rfl, rfl⟩) ?_ ?_
                      rotate_left
                      ·simp only [Act.put, zA8_, zB8_, zC8_, i64_w, i32_w]
                       rfl
                      refine pure_ (i := 19) (N := some 140) (v := ?_) (a' := ?_) (bq_8_ 32 1048575) rfl rfl (any_of HT_.out (by kernel_rfl)) (fun _ _ _ h => h) (Or.inl ⟨by rfl, ?_⟩) ?_ ?_
                      rotate_left
                      ·intro w'
                       go_simp
                       with_reducible rfl
                      rotate_left
                      ·simp only [Act.put, zA8_, zB8_, zC8_, i64_w, i32_w]
                       rfl
                      refine pure_ (i := 20) (N := some 141) (v := ?_) (a' := ?_) (bq_8_ 32 2097151) rfl rfl (any_of HT_.out (by kernel_rfl)) (fun _ _ _ h => h) (Or.inl ⟨by rfl, ?_⟩) ?_ ?_
                      rotate_left
                      ·intro w'
                       go_simp
                       with_reducible rfl
                      rotate_left
                      ·simp only [Act.put, zA8_, zB8_, zC8_, i64_w, i32_w]
                       rfl
                      refine pure_ (i := 21) (N := some 142) (v := ?_) (a' := ?_) (bq_8_ 32 4194303) rfl rfl (any_of HT_.out (by kernel_rfl)) (fun _ _ _ h => h) (Or.inl ⟨by rfl, ?_⟩) ?_ ?_
                      rotate_left
                      ·intro w'
                       go_simp
                       with_reducible rfl
                      rotate_left
                      ·simp only [Act.put, zA8_, zB8_, zC8_, i64_w, i32_w]
                       rfl
                      refine pure_ (i := 22) (N := some 143) (v := ?_) (a' := ?_) (bq_8_ 32 8388607) rfl rfl (any_of HT_.out (by kernel_rfl)) (fun _ _ _ h => h) (Or.inl ⟨by rfl, ?_⟩) ?_ ?_
                      rotate_left
                      ·intro w'
                       go_simp
                       with_reducible rfl
                      rotate_left
                      ·simp only [Act.put, zA8_, zB8_, zC8_, i64_w, i32_w]
                       rfl
                      refine pure_ (i := 23) (N := some 144) (v := ?_) (a' := ?_) (bq_8_ 32 16777215) rfl rfl (any_of HT_.out (by kernel_rfl)) (fun _ _ _ h => h) (Or.inl ⟨by rfl, ?_⟩) ?_ ?_
                      rotate_left
                      ·intro w'
                       go_simp
                       with_reducible rfl
                      rotate_left
                      ·simp only [Act.put, zA8_, zB8_, zC8_, i64_w, i32_w]
                       rfl
                      refine pure_ (i := 24) (N := some 145) (v := ?_) (a' := ?_) (bq_8_ 32 33554431) rfl rfl (any_of HT_.out (by kernel_rfl)) (fun _ _ _ h => h) (Or.inl ⟨by rfl, ?_⟩) ?_ ?_
                      rotate_left
                      ·intro w'
                       go_simp
                       with_reducible rfl
                      rotate_left
                      ·simp only [Act.put, zA8_, zB8_, zC8_, i64_w, i32_w]
                       rfl
                      refine pure_ (i := 25) (N := some 146) (v := ?_) (a' := ?_) (bq_8_ 32 67108863) rfl rfl (any_of HT_.out (by kernel_rfl)) (fun _ _ _ h => h) (Or.inl ⟨by rfl, ?_⟩) ?_ ?_
                      rotate_left
                      ·intro w'
                       go_simp
                       with_reducible rfl
                      rotate_left
                      ·simp only [Act.put, zA8_, zB8_, zC8_, i64_w, i32_w]
                       rfl
                      refine pure_ (i := 26) (N := some 147) (v := ?_) (a' := ?_) (bq_8_ 32 134217727) rfl rfl (any_of HT_.out (by kernel_rfl)) (fun _ _ _ h => h) (Or.inl ⟨by rfl, ?_⟩) ?_ ?_
                      rotate_left
                      ·intro w'
                       go_simp
                       with_reducible rfl
                      rotate_left
                      ·simp only [Act.put, zA8_, zB8_, zC8_, i64_w, i32_w]
                       rfl
                      refine pure_ (i := 27) (N := some 148) (v := ?_) (a' := ?_) (bq_8_ 32 268435455) rfl rfl (any_of HT_.out (by kernel_rfl)) (fun _ _ _ h => h) (Or.inl ⟨by rfl, ?_⟩) ?_ ?_
                      rotate_left
                      ·intro w'
                       go_simp
                       with_reducible rfl
                      rotate_left
                      ·simp only [Act.put, zA8_, zB8_, zC8_, i64_w, i32_w]
                       rfl
                      refine pure_ (i := 28) (N := some 149) (v := ?_) (a' := ?_) (bq_8_ 32 536870911) rfl rfl (any_of HT_.out (by kernel_rfl)) (fun _ _ _ h => h) (Or.inl ⟨by rfl, ?_⟩) ?_ ?_
                      rotate_left
                      ·intro w'
                       go_simp
                       with_reducible rfl
                      rotate_left
                      ·simp only [Act.put, zA8_, zB8_, zC8_, i64_w, i32_w]
                       rfl
                      refine pure_ (i := 29) (N := some 150) (v := ?_) (a' := ?_) (bq_8_ 32 1073741823) rfl rfl (any_of HT_.out (by kernel_rfl)) (fun _ _ _ h => h) (Or.inl ⟨by rfl, ?_⟩) ?_ ?_
                      rotate_left
                      ·intro w'
                       go_simp
                       with_reducible rfl
                      rotate_left
                      ·simp only [Act.put, zA8_, zB8_, zC8_, i64_w, i32_w]
                       rfl
                      refine pure_ (i := 30) (N := some 151) (v := ?_) (a' := ?_) (bq_8_ 32 2147483647) rfl rfl (any_of HT_.out (by kernel_rfl)) (fun _ _ _ h => h) (Or.inl ⟨by rfl, ?_⟩) ?_ ?_
                      rotate_left
                      ·intro w'
                       go_simp
                       with_reducible rfl
                      rotate_left
                      ·simp only [Act.put, zA8_, zB8_, zC8_, i64_w, i32_w]
                       rfl
                      refine pure_ (i := 31) (N := some 152) (v := ?_) (a' := ?_) (bq_8_ 32 4294967295) rfl rfl (any_of HT_.out (by kernel_rfl)) (fun _ _ _ h => h) (Or.inl ⟨by rfl, ?_⟩) ?_ ?_
                      rotate_left
                      ·intro w'
                       go_simp
                       with_reducible rfl
                      rotate_left
                      ·simp only [Act.put, zA8_, zB8_, zC8_, i64_w, i32_w]
                       rfl
                      refine done_ (done_of HT_.out (by kernel_rfl)) ?_
                      try go_wp2_with (first | ((with_reducible refine gate_callee (f := 18) rfl ?_); refine goesL_ (some 155) rfl rfl Try.func18 (by kernel_rfl) rfl #[.string x2_9] rfl (by (try simp only [List.map_toArray, List.map_cons, List.map_nil]); first | done | rfl | (simp only [List.length_drop, List.length_take]; rfl)) ?_; (with_reducible refine (num_ReadS.calls k4 x2_9 t191 t192 true _ A78.out).mono ?_); rintro e w' ⟨rfl, ⟨nd, rfl⟩⟩; refine ⟨_, rfl, ?_⟩))
                      (try (rw [drewN_self w86]; generalize hq_ : World.drewN w86 _ = w86; have n0_ : Aside0 (Below w.heap.size w w86) := ⟨by rw [← hq_]; exact (by repeat (first | (with_reducible first | exact HB.out | apply below_alloc | apply pw_below_drewN | apply below_drew1) | exact HB.out))⟩; clear HB hq_; have HB := n0_; clear n0_))
                      have n0_ := Aside0.mk (below_drew1 HB.out)
                      clear HB
                      have HB := n0_
                      clear n0_
                      refine start_ (n := 32) (S := fun w' => True) (ds := []) #[false, false, false, false, false, false, false, false, false, false, false, false, false, false, false, false, false, false, false, false, false, false, false, false, false, false, false, false, false, false, false, false] (by kernel_rfl) rfl rfl trivial (fun hHeld => ?_); refine with_tabW wapentakelaw01_NumBack.tab26 wapentakelaw01_NumBack.bits26 (fun HT_ HW_ => ?_)
                      generalize w86.drew = w87 at HB hHeld ⊢
                      refine pure_ (i := 0) (N := some 159) (v := ?_) (a' := ?_) (bq_8_ 32 1) rfl rfl (any_of HT_.out (by kernel_rfl)) (fun _ _ _ h => h) (Or.inl ⟨by rfl, ?_⟩) ?_ ?_
                      rotate_left
                      ·intro w'
                       go_simp
                       with_reducible rfl
                      rotate_left
                      ·simp only [Act.put, zA8_, zB8_, zC8_, i64_w, i32_w]
                       rfl
                      refine pure_ (i := 1) (N := some 160) (v := ?_) (a' := ?_) (bq_8_ 32 3) rfl rfl (any_of HT_.out (by kernel_rfl)) (fun _ _ _ h => h) (Or.inl ⟨by rfl, ?_⟩) ?_ ?_
                      rotate_left
                      ·intro w'
                       go_simp
                       with_reducible rfl
                      rotate_left
                      ·simp only [Act.put, zA8_, zB8_, zC8_, i64_w, i32_w]
                       rfl
                      refine pure_ (i := 2) (N := some 161) (v := ?_) (a' := ?_) (bq_8_ 32 7) rfl rfl (any_of HT_.out (by kernel_rfl)) (fun _ _ _ h => h) (Or.inl ⟨by rfl, ?_⟩) ?_ ?_
                      rotate_left
                      ·intro w'
                       go_simp
                       with_reducible rfl
                      rotate_left
                      ·simp only [Act.put, zA8_, zB8_, zC8_, i64_w, i32_w]
                       rfl
                      refine pure_ (i := 3) (N := some 162) (v := undef) (a' := ?_) (bq_8_ 32 15) rfl rfl (any_of HT_.out (by kernel_rfl)) (fun _ _ _ h => h) (Or.inr ⟨by rfl, rfl⟩) ?_ ?_
                      rotate_left
                      ·simp only [Act.put, zA8_, zB8_, zC8_, i64_w, i32_w]
                       rfl
                      refine pure_ (i := 4) (N := some 163) (v := undef) (a' := ?_) (bq_8_ 32 31) rfl rfl (any_of HT_.out (by kernel_rfl)) (fun _ _ _ h => h) (Or.inr ⟨by rfl, rfl⟩) ?_ ?_
                      rotate_left
                      ·simp only [Act.put, zA8_, zB8_, zC8_, i64_w, i32_w]
                       rfl
                      refine pure_ (i := 5) (N := some 164) (v := ?_) (a' := ?_) (bq_8_ 32 63) rfl rfl (any_of HT_.out (by kernel_rfl)) (fun _ _ _ h => h) (Or.inl ⟨by rfl, ?_⟩) ?_ ?_
                      rotate_left
                      ·intro w'
                       go_simp
                       with_reducible rfl
                      rotate_left
                      ·simp only [Act.put, zA8_, zB8_, zC8_, i64_w, i32_w]
                       rfl
                      refine pure_ (i := 6) (N := some 165) (v := ?_) (a' := ?_) (bq_8_ 32 127) rfl rfl (any_of HT_.out (by kernel_rfl)) (fun _ _ _ h => h) (Or.inl ⟨by rfl, ?_⟩) ?_ ?_
                      rotate_left
                      ·intro w'
                       go_simp
                       with_reducible rfl
                      rotate_left
                      ·simp only [Act.put, zA8_, zB8_, zC8_, i64_w, i32_w]
                       rfl
                      refine pure_ (i := 7) (N := some 166) (v := undef) (a' := ?_) (bq_8_ 32 255) rfl rfl (any_of HT_.out (by kernel_rfl)) (fun _ _ _ h => h) (Or.inr ⟨by rfl, rfl⟩) ?_ ?_
                      rotate_left
                      ·simp only [Act.put, zA8_, zB8_, zC8_, i64_w, i32_w]
                       rfl
                      refine pure_ (i := 8) (N := some 167) (v := undef) (a' := ?_) (bq_8_ 32 511) rfl rfl (any_of HT_.out (by kernel_rfl)) (fun _ _ _ h => h) (Or.inr ⟨by rfl, rfl⟩) ?_ ?_
                      rotate_left
                      ·simp only [Act.put, zA8_, zB8_, zC8_, i64_w, i32_w]
                       rfl
                      refine pure_ (i := 9) (N := some 168) (v := ?_) (a' := ?_) (bq_8_ 32 1023) rfl rfl (any_of HT_.out (by kernel_rfl)) (fun _ _ _ h => h) (Or.inl ⟨by rfl, ?_⟩) ?_ ?_
                      rotate_left
                      ·intro w'
                       go_simp
                       with_reducible rfl
                      rotate_left
                      ·simp only [Act.put, zA8_, zB8_, zC8_, i64_w, i32_w]
                       rfl
                      refine pure_ (i := 10) (N := some 169) (v := ?_) (a' := ?_) (bq_8_ 32 2047) rfl rfl (any_of HT_.out (by kernel_rfl)) (fun _ _ _ h => h) (Or.inl ⟨by rfl, ?_⟩) ?_ ?_
                      rotate_left
                      ·intro w'
                       go_simp
                       with_reducible rfl
                      rotate_left
                      ·simp only [Act.put, zA8_, zB8_, zC8_, i64_w, i32_w]
                       rfl
                      refine pure_ (i := 11) (N := some 170) (v := ?_) (a' := ?_) (bq_8_ 32 4095) rfl rfl (any_of HT_.out (by kernel_rfl)) (fun _ _ _ h => h) (Or.inl ⟨by rfl, ?_⟩) ?_ ?_
                      rotate_left
                      ·intro w'
                       go_simp
                       with_reducible rfl
                      rotate_left
                      ·simp only [Act.put, zA8_, zB8_, zC8_, i64_w, i32_w]
                       rfl
                      refine pure_ (i := 12) (N := some 171) (v := ?_) (a' := ?_) (bq_8_ 32 8191) rfl rfl (any_of HT_.out (by kernel_rfl)) (fun _ _ _ h => h) (Or.inl ⟨by rfl, ?_⟩) ?_ ?_
                      rotate_left
                      ·intro w'
                       go_simp
                       with_reducible rfl
                      rotate_left
                      ·simp only [Act.put, zA8_, zB8_, zC8_, i64_w, i32_w]
                       rfl
                      refine pure_ (i := 13) (N := some 172) (v := ?_) (a' := ?_) (bq_8_ 32 16383) rfl rfl (any_of HT_.out (by kernel_rfl)) (fun _ _ _ h => h) (Or.inl ⟨by rfl, ?_⟩) ?_ ?_
                      rotate_left
                      ·intro w'
                       go_simp
                       with_reducible rfl
                      rotate_left
                      ·simp only [Act.put, zA8_, zB8_, zC8_, i64_w, i32_w]
                       rfl
                      refine pure_ (i := 14) (N := some 173) (v := ?_) (a' := ?_) (bq_8_ 32 32767) rfl rfl (any_of HT_.out (by kernel_rfl)) (fun _ _ _ h => h) (Or.inl ⟨by rfl, ?_⟩) ?_ ?_
                      rotate_left
                      ·intro w'
                       go_simp
                       with_reducible rfl
                      rotate_left
                      ·simp only [Act.put, zA8_, zB8_, zC8_, i64_w, i32_w]
                       rfl
                      refine pure_ (i := 15) (N := some 174) (v := ?_) (a' := ?_) (bq_8_ 32 65535) rfl rfl (any_of HT_.out (by kernel_rfl)) (fun _ _ _ h => h) (Or.inl ⟨by rfl, ?_⟩) ?_ ?_
                      rotate_left
                      ·intro w'
                       go_simp
                       with_reducible rfl
                      rotate_left
                      ·simp only [Act.put, zA8_, zB8_, zC8_, i64_w, i32_w]
                       rfl
                      refine pure_ (i := 16) (N := some 175) (v := ?_) (a' := ?_) (bq_8_ 32 131071) rfl rfl (any_of HT_.out (by kernel_rfl)) (fun _ _ _ h => h) (Or.inl ⟨by rfl, ?_⟩) ?_ ?_
                      rotate_left
                      ·intro w'
                       go_simp
                       with_reducible rfl
                      rotate_left
                      ·simp only [Act.put, zA8_, zB8_, zC8_, i64_w, i32_w]
                       rfl
                      refine pure_ (i := 17) (N := some 176) (v := ?_) (a' := ?_) (bq_8_ 32 262143) rfl rfl (any_of HT_.out (by kernel_rfl)) (fun _ _ _ h => h) (Or.inl ⟨by rfl, ?_⟩) ?_ ?_
                      rotate_left
                      ·intro w'
                       go_simp
                       with_reducible rfl
                      rotate_left
                      ·simp only [Act.put, zA8_, zB8_, zC8_, i64_w, i32_w]
                       rfl
                      refine pure_ (i := 18) (N := some 177) (v := ?_) (a' := ?_) (bq_8_ 32 524287) rfl rfl (any_of HT_.out (by kernel_rfl)) (fun _ _ _ h => h) (Or.inl ⟨by rfl, ?_⟩) ?_ ?_
                      rotate_left
                      ·intro w'
                       go_simp
                       with_reducible rfl
                      rotate_left
                      ·simp only [Act.put, zA8_, zB8_, zC8_, i64_w, i32_w]
                       rfl
                      refine pure_ (i := 19) (N := some 178) (v := ?_) (a' := ?_) (bq_8_ 32 1048575) rfl rfl (any_of HT_.out (by kernel_rfl)) (fun _ _ _ h => h) (Or.inl ⟨by rfl, ?_⟩) ?_ ?_
                      rotate_left
                      ·intro w'
                       go_simp
                       with_reducible rfl
                      rotate_left
                      ·simp only [Act.put, zA8_, zB8_, zC8_, i64_w, i32_w]
                       rfl
                      refine pure_ (i := 22) (N := some 181) (v := ?_) (a' := ?_) (bq_8_ 32 5242879) rfl rfl (any_of HT_.out (by kernel_rfl)) (fun _ _ _ h => h) (Or.inl ⟨by rfl, ?_⟩) ?_ ?_
                      rotate_left
                      ·intro w'
                       go_simp
                       with_reducible rfl
                      rotate_left
                      ·simp only [Act.put, zA8_, zB8_, zC8_, i64_w, i32_w]
                       rfl
                      refine pure_ (i := 23) (N := some 182) (v := ?_) (a' := ?_) (bq_8_ 32 13631487) rfl rfl (any_of HT_.out (by kernel_rfl)) (fun _ _ _ h => h) (Or.inl ⟨by rfl, ?_⟩) ?_ ?_
                      rotate_left
                      ·intro w'
                       go_simp
                       with_reducible rfl
                      rotate_left
                      ·simp only [Act.put, zA8_, zB8_, zC8_, i64_w, i32_w]
                       rfl
                      refine pure_ (i := 24) (N := some 183) (v := ?_) (a' := ?_) (bq_8_ 32 30408703) rfl rfl (any_of HT_.out (by kernel_rfl)) (fun _ _ _ h => h) (Or.inl ⟨by rfl, ?_⟩) ?_ ?_
                      rotate_left
                      ·intro w'
                       go_simp
                       with_reducible rfl
                      rotate_left
                      ·simp only [Act.put, zA8_, zB8_, zC8_, i64_w, i32_w]
                       rfl
                      refine one_ (i := 20) (N := some 179) (bq_8_ 32 31457279) rfl rfl (one_of HT_.out (by kernel_rfl)) (by decide) (fun K hK => ?_)
                      refine Kd.R_lit_step Kd.string _ 9 ?hg (N := 179) ?hd (xs := ([t191] : List ByteArray)) (inner := [.string t191]) (ok := fun _ => True) (okp := fun _ => True) ?hr ?hp (fun _ hk => hk) trivial (Below.refl _ _) (Nat.le_refl _) (by simp) ?_; (case hd => rfl); (case hg => rfl); (case hr => first | (go_simp; done) | (go_simp; rfl)); (case hp => exact (Reps.one (show Kd.M Kd.string _ _ _ t191 [.string t191] from rfl) (Reps.none _ _)))
                      intro v195 w88 ho89 hb hg_ hnew_
                      clear hg_ hnew_
                      (first | rw [← Ny194.out] at ho89 | (simp only [Int.reduceToNat] at ho89; rw [← Ny194.out] at ho89))
                      have n0_ := Aside0.mk (Kd.R_lower ho89 (below_size (by repeat (first | (with_reducible first | exact HB.out | apply below_alloc | apply pw_below_drewN | apply below_drew1) | exact HB.out))))
                      have n1_ := Aside0.mk (below_step (by repeat (first | (with_reducible first | exact HB.out | apply below_alloc | apply pw_below_drewN | apply below_drew1) | exact HB.out)) hb)
                      clear HB
                      have HO196 := n0_
                      have HB := n1_
                      clear n0_ n1_
                      clear hb ho89
                      obtain ⟨Ao90, co90, eo90⟩ := Kd.R_slice HO196.out
                      (first | subst eo90 | (injection eo90 with f1_ f2_ f3_; have f4_ := f1_.symm; have f5_ := f3_.symm; clear f1_ f2_ f3_; subst f4_; subst f5_))
                      refine hK.out _ _ trivial (fun hHeld => ?_)
                      clear hK K
                      refine norm_ (a' := ?_) ?_ ?_
                      rotate_left
                      ·show Act.put _ (some 179) _ = _
                       simp only [Act.put, zA8_, zB8_, zC8_, i64_w, i32_w]
                       rfl
                      refine one_ (i := 21) (N := some 180) (bq_8_ 32 33554431) rfl rfl (one_of HT_.out (by kernel_rfl)) (by decide) (fun K hK => ?_)
                      refine goes_ Try.func13 (by kernel_rfl) rfl #[.slice Ao90 y194.length co90] (by rfl) rfl rfl (by (try simp only [List.map_toArray, List.map_cons, List.map_nil]); first | done | rfl | (simp only [List.length_drop, List.length_take]; rfl)) ?_
                      with_reducible refine (num_S.calls k4 _ _ y194 t197 _ ?side1 ?side2 A81.out).mono ?_
                      (case side1 => repeat (first | exact (Kd.R_reads' HO196.out).2.2 | (with_reducible refine Kd.C_alloc ?_ _) | (with_reducible refine Kd.C_drewN ?_ _) | (with_reducible refine Kd.C_drew ?_)))
                      (case side2 => exact (Kd.R_reads' HO196.out).2.1)
                      rintro e w91 ⟨rfl, hb⟩
                      refine ⟨_, rfl, ?_⟩
                      have n0_ := Aside0.mk (Kd.R_below (by (with_reducible repeat (first | apply Kd.R_alloc | apply Kd.R_drewN | apply Kd.R_drew)); exact HO196.out) hb)
                      have n1_ := Aside0.mk (below_step (by repeat (first | (with_reducible first | exact HB.out | apply below_alloc | apply pw_below_drewN | apply below_drew1) | exact HB.out)) hb)
                      clear HO196
                      clear HB
                      have HO196 := n0_
                      have HB := n1_
                      clear n0_ n1_
                      (try clear hb)
                      (try clear hb2)
                      (try clear hk)
                      (try clear hi)
                      refine hK.out _ _ trivial (fun hHeld => ?_)
                      clear hK K
                      refine norm_ (a' := ?_) ?_ ?_
                      rotate_left
                      ·show Act.put _ (some 180) _ = _
                       simp only [Act.put, zA8_, zB8_, zC8_, i64_w, i32_w]
                       rfl
                      refine pure_ (i := 25) (N := some 184) (v := ?_) (a' := ?_) (bq_8_ 32 67108863) rfl rfl (any_of HT_.out (by kernel_rfl)) (fun _ _ _ h => h) (Or.inl ⟨by rfl, ?_⟩) ?_ ?_
                      rotate_left
                      ·intro w'
                       go_simp
                       with_reducible rfl
                      rotate_left
                      ·simp only [Act.put, zA8_, zB8_, zC8_, i64_w, i32_w]
                       rfl
                      refine pure_ (i := 26) (N := some 185) (v := ?_) (a' := ?_) (bq_8_ 32 134217727) rfl rfl (any_of HT_.out (by kernel_rfl)) (fun _ _ _ h => h) (Or.inl ⟨by rfl, ?_⟩) ?_ ?_
                      rotate_left
                      ·intro w'
                       go_simp
                       with_reducible rfl
                      rotate_left
                      ·simp only [Act.put, zA8_, zB8_, zC8_, i64_w, i32_w]
                       rfl
                      refine pure_ (i := 27) (N := some 186) (v := ?_) (a' := ?_) (bq_8_ 32 268435455) rfl rfl (any_of HT_.out (by kernel_rfl)) (fun _ _ _ h => h) (Or.inl ⟨by rfl, ?_⟩) ?_ ?_
                      rotate_left
                      ·intro w'
                       go_simp
                       with_reducible rfl
                      rotate_left
                      ·simp only [Act.put, zA8_, zB8_, zC8_, i64_w, i32_w]
                       rfl
                      refine pure_ (i := 28) (N := some 187) (v := ?_) (a' := ?_) (bq_8_ 32 536870911) rfl rfl (any_of HT_.out (by kernel_rfl)) (fun _ _ _ h => h) (Or.inl ⟨by rfl, ?_⟩) ?_ ?_
                      rotate_left
                      ·intro w'
                       go_simp
                       with_reducible rfl
                      rotate_left
                      ·simp only [Act.put, zA8_, zB8_, zC8_, i64_w, i32_w]
                       rfl
                      refine one_ (i := 29) (N := some 188) (bq_8_ 32 1073741823) rfl rfl (one_of HT_.out (by kernel_rfl)) (by decide) (fun K hK => ?_)
                      refine goes_ Try.func10 (by kernel_rfl) rfl #[] (by rfl) rfl rfl (by (try simp only [List.map_toArray, List.map_cons, List.map_nil]); first | done | rfl | (simp only [List.length_drop, List.length_take]; rfl)) ?_
                      with_reducible refine (wapentakelaw01_awake.calls k4  t198 _ A85.out).mono ?_
                      rintro e w92 ⟨rfl, hb⟩
                      refine ⟨_, rfl, ?_⟩
                      have n0_ := Aside0.mk (Kd.R_below (by (with_reducible repeat (first | apply Kd.R_alloc | apply Kd.R_drewN | apply Kd.R_drew)); exact HO196.out) hb)
                      have n1_ := Aside0.mk (below_step (by repeat (first | (with_reducible first | exact HB.out | apply below_alloc | apply pw_below_drewN | apply below_drew1) | exact HB.out)) hb)
                      clear HO196
                      clear HB
                      have HO196 := n0_
                      have HB := n1_
                      clear n0_ n1_
                      (try clear hb)
                      (try clear hb2)
                      (try clear hk)
                      (try clear hi)
                      refine hK.out _ _ trivial (fun hHeld => ?_)
                      clear hK K
                      refine norm_ (a' := ?_) ?_ ?_
                      rotate_left
                      ·show Act.put _ (some 188) _ = _
                       simp only [Act.put, zA8_, zB8_, zC8_, i64_w, i32_w]
                       rfl
                      refine pure_ (i := 30) (N := some 189) (v := ?_) (a' := ?_) (bq_8_ 32 2147483647) rfl rfl (any_of HT_.out (by kernel_rfl)) (fun _ _ _ h => h) (Or.inl ⟨by rfl, ?_⟩) ?_ ?_
                      rotate_left
                      ·intro w'
                       go_simp
                       with_reducible rfl
                      rotate_left
                      ·simp only [Act.put, zA8_, zB8_, zC8_, i64_w, i32_w]
                       rfl
                      refine pure_ (i := 31) (N := some 6) (v := ?_) (a' := ?_) (bq_8_ 32 4294967295) rfl rfl (any_of HT_.out (by kernel_rfl)) (fun _ _ _ h => h) (Or.inl ⟨by rfl, ?_⟩) ?_ ?_
                      rotate_left
                      ·intro w'
                       go_simp
                       with_reducible rfl
                      rotate_left
                      ·simp only [Act.put, zA8_, zB8_, zC8_, i64_w, i32_w]
                       rfl
                      refine done_ (done_of HT_.out (by kernel_rfl)) ?_
                      try go_wp2
                      go_ret
                      exact ⟨by first | rfl | (simp [errW_none, errW_some] <;> rfl) | (simp [*, errW_none, errW_some] <;> rfl), by repeat (first | (with_reducible first | exact HB.out | apply below_alloc | apply pw_below_drewN | apply below_drew1) | exact HB.out)⟩
                     ·rw [if_neg c84] at H
                      have c84b0 : (t197.toList == (x2_9.extract 0 (t192 : Int).toNat).toList) = false := beq_eq_false_iff_ne.mpr c84
                      have c84b1 : (t197.toList != (x2_9.extract 0 (t192 : Int).toNat).toList) = true := bne_iff_ne.mpr c84
                      exact absurd (Option.some.inj H) (by rw [hr_]; decide)
                    ·rw [if_neg c82] at H
                     exact absurd H (by simp)
                   ·rw [if_neg c80] at H
                    have c80b0 : decide (t192 ≤ (x2_9.size : Int)) = false := decide_eq_false c80
                    clear c80
                    exact absurd (Option.some.inj H) (by rw [hr_]; decide)
                  ·replace c79 := Bool.eq_false_iff.mpr c79
                   subst c79
                   have H1 : (if t191.toList = ([] : List UInt8) then (if t192 = 0 then ((wapentakelaw01_awake.f k4).bind fun t199 => (some t199)) else (some false)) else (some false)) = some r := by rw [if_neg (show ¬ (false = true) by decide)] at H; exact H
                   clear H
                   have H := H1
                   clear H1
                   by_cases c93 : t191.toList = ([] : List UInt8)
                   ·rw [if_pos c93] at H
                    have c93b0 : (t191.toList == ([] : List UInt8)) = true := beq_iff_eq.mpr c93
                    have c93b1 : (t191.toList != ([] : List UInt8)) = false := bne_eq_false_iff_eq.mpr c93
                    clear c93
                    by_cases c94 : t192 = 0
                    ·rw [if_pos c94] at H
                     have c94b0 : (t192 == 0) = true := beq_iff_eq.mpr c94
                     have c94b1 : (t192 != 0) = false := bne_eq_false_iff_eq.mpr c94
                     clear c94
                     replace H := Option.bind_eq_some_iff.mp H
                     obtain ⟨t199, A950, H⟩ := H
                     replace H : (some t199) = some r := H
                     have A95 := Aside0.mk A950
                     clear A950
                     clear hr_
                     obtain rfl := Option.some.inj H
                     try go_wp2_with (first | ((with_reducible refine gate_callee (f := 17) rfl ?_); refine goesL_ (some 117) rfl rfl Try.func17 (by kernel_rfl) rfl #[.string x2_9] rfl (by (try simp only [List.map_toArray, List.map_cons, List.map_nil]); first | done | rfl | (simp only [List.length_drop, List.length_take]; rfl)) ?_; (with_reducible refine (num_ReadV.calls k4 x2_9 t175 t176 false _ A39.out).mono ?_); rintro e w' ⟨rfl, ⟨nd, rfl⟩⟩; refine ⟨_, rfl, ?_⟩))
                     (try (rw [drewN_self wr]; generalize hq_ : World.drewN wr _ = wr; have n0_ : Aside0 (Below w.heap.size w wr) := ⟨by rw [← hq_]; exact (by repeat (first | (with_reducible first | exact HB.out | apply below_alloc | apply pw_below_drewN | apply below_drew1) | exact HB.out))⟩; clear HB hq_; have HB := n0_; clear n0_))
                     have n0_ := Aside0.mk (below_drew1 HB.out)
                     clear HB
                     have HB := n0_
                     clear n0_
                     refine start_ (n := 32) (S := fun w' => True) (ds := []) #[false, false, false, false, false, false, false, false, false, false, false, false, false, false, false, false, false, false, false, false, false, false, false, false, false, false, false, false, false, false, false, false] (by kernel_rfl) rfl rfl trivial (fun hHeld => ?_); refine with_tabW wapentakelaw01_NumBack.tab23 wapentakelaw01_NumBack.bits23 (fun HT_ HW_ => ?_)
                     generalize wr.drew = w96 at HB hHeld ⊢
                     refine pure_ (i := 0) (N := some 121) (v := ?_) (a' := ?_) (bq_8_ 32 1) rfl rfl (any_of HT_.out (by kernel_rfl)) (fun _ _ _ h => h) (Or.inl ⟨by rfl, ?_⟩) ?_ ?_
                     rotate_left
                     ·intro w'
                      go_simp
                      with_reducible rfl
                     rotate_left
                     ·simp only [Act.put, zA8_, zB8_, zC8_, i64_w, i32_w]
                      rfl
                     refine pure_ (i := 1) (N := some 122) (v := ?_) (a' := ?_) (bq_8_ 32 3) rfl rfl (any_of HT_.out (by kernel_rfl)) (fun _ _ _ h => h) (Or.inl ⟨by rfl, ?_⟩) ?_ ?_
                     rotate_left
                     ·intro w'
                      go_simp
                      with_reducible rfl
                     rotate_left
                     ·simp only [Act.put, zA8_, zB8_, zC8_, i64_w, i32_w]
                      rfl
                     refine pure_ (i := 2) (N := some 123) (v := undef) (a' := ?_) (bq_8_ 32 7) rfl rfl (any_of HT_.out (by kernel_rfl)) (fun _ _ _ h => h) (Or.inr ⟨by rfl, rfl⟩) ?_ ?_
                     rotate_left
                     ·simp only [Act.put, zA8_, zB8_, zC8_, i64_w, i32_w]
                      rfl
                     refine pure_ (i := 3) (N := some 124) (v := undef) (a' := ?_) (bq_8_ 32 15) rfl rfl (any_of HT_.out (by kernel_rfl)) (fun _ _ _ h => h) (Or.inr ⟨by rfl, rfl⟩) ?_ ?_
                     rotate_left
                     ·simp only [Act.put, zA8_, zB8_, zC8_, i64_w, i32_w]
                      rfl
                     refine pure_ (i := 4) (N := some 125) (v := undef) (a' := ?_) (bq_8_ 32 31) rfl rfl (any_of HT_.out (by kernel_rfl)) (fun _ _ _ h => h) (Or.inr ⟨by rfl, rfl⟩) ?_ ?_
                     rotate_left
                     ·simp only [Act.put, zA8_, zB8_, zC8_, i64_w, i32_w]
                      rfl
                     refine pure_ (i := 5) (N := some 126) (v := undef) (a' := ?_) (bq_8_ 32 63) rfl rfl (any_of HT_.out (by kernel_rfl)) (fun _ _ _ h => h) (Or.inr ⟨by rfl, rfl⟩) ?_ ?_
                     rotate_left
                     ·simp only [Act.put, zA8_, zB8_, zC8_, i64_w, i32_w]
                      rfl
                     refine pure_ (i := 6) (N := some 127) (v := undef) (a' := ?_) (bq_8_ 32 127) rfl rfl (any_of HT_.out (by kernel_rfl)) (fun _ _ _ h => h) (Or.inr ⟨by rfl, rfl⟩) ?_ ?_
                     rotate_left
                     ·simp only [Act.put, zA8_, zB8_, zC8_, i64_w, i32_w]
                      rfl
                     refine pure_ (i := 7) (N := some 128) (v := undef) (a' := ?_) (bq_8_ 32 255) rfl rfl (any_of HT_.out (by kernel_rfl)) (fun _ _ _ h => h) (Or.inr ⟨by rfl, rfl⟩) ?_ ?_
                     rotate_left
                     ·simp only [Act.put, zA8_, zB8_, zC8_, i64_w, i32_w]
                      rfl
                     refine pure_ (i := 8) (N := some 129) (v := undef) (a' := ?_) (bq_8_ 32 511) rfl rfl (any_of HT_.out (by kernel_rfl)) (fun _ _ _ h => h) (Or.inr ⟨by rfl, rfl⟩) ?_ ?_
                     rotate_left
                     ·simp only [Act.put, zA8_, zB8_, zC8_, i64_w, i32_w]
                      rfl
                     refine pure_ (i := 9) (N := some 130) (v := undef) (a' := ?_) (bq_8_ 32 1023) rfl rfl (any_of HT_.out (by kernel_rfl)) (fun _ _ _ h => h) (Or.inr ⟨by rfl, rfl⟩) ?_ ?_
                     rotate_left
                     ·simp only [Act.put, zA8_, zB8_, zC8_, i64_w, i32_w]
                      rfl
                     refine pure_ (i := 10) (N := some 131) (v := undef) (a' := ?_) (bq_8_ 32 2047) rfl rfl (any_of HT_.out (by kernel_rfl)) (fun _ _ _ h => h) (Or.inr ⟨by rfl, rfl⟩) ?_ ?_
                     rotate_left
                     ·simp only [Act.put, zA8_, zB8_, zC8_, i64_w, i32_w]
                      rfl
                     refine pure_ (i := 11) (N := some 132) (v := undef) (a' := ?_) (bq_8_ 32 4095) rfl rfl (any_of HT_.out (by kernel_rfl)) (fun _ _ _ h => h) (Or.inr ⟨by rfl, rfl⟩) ?_ ?_
                     rotate_left
                     ·simp only [Act.put, zA8_, zB8_, zC8_, i64_w, i32_w]
                      rfl
                     refine pure_ (i := 12) (N := some 133) (v := undef) (a' := ?_) (bq_8_ 32 8191) rfl rfl (any_of HT_.out (by kernel_rfl)) (fun _ _ _ h => h) (Or.inr ⟨by rfl, rfl⟩) ?_ ?_
                     rotate_left
                     ·simp only [Act.put, zA8_, zB8_, zC8_, i64_w, i32_w]
                      rfl
                     refine pure_ (i := 13) (N := some 134) (v := undef) (a' := ?_) (bq_8_ 32 16383) rfl rfl (any_of HT_.out (by kernel_rfl)) (fun _ _ _ h => h) (Or.inr ⟨by rfl, rfl⟩) ?_ ?_
                     rotate_left
                     ·simp only [Act.put, zA8_, zB8_, zC8_, i64_w, i32_w]
                      rfl
                     refine pure_ (i := 14) (N := some 135) (v := undef) (a' := ?_) (bq_8_ 32 32767) rfl rfl (any_of HT_.out (by kernel_rfl)) (fun _ _ _ h => h) (Or.inr ⟨by rfl, rfl⟩) ?_ ?_
                     rotate_left
                     ·simp only [Act.put, zA8_, zB8_, zC8_, i64_w, i32_w]
                      rfl
                     refine pure_ (i := 15) (N := some 136) (v := undef) (a' := ?_) (bq_8_ 32 65535) rfl rfl (any_of HT_.out (by kernel_rfl)) (fun _ _ _ h => h) (Or.inr ⟨by rfl, rfl⟩) ?_ ?_
                     rotate_left
                     ·simp only [Act.put, zA8_, zB8_, zC8_, i64_w, i32_w]
                      rfl
                     refine pure_ (i := 16) (N := some 137) (v := undef) (a' := ?_) (bq_8_ 32 131071) rfl rfl (any_of HT_.out (by kernel_rfl)) (fun _ _ _ h => h) (Or.inr ⟨by rfl, rfl⟩) ?_ ?_
                     rotate_left
                     ·simp only [Act.put, zA8_, zB8_, zC8_, i64_w, i32_w]
                      rfl
                     refine pure_ (i := 17) (N := some 138) (v := undef) (a' := ?_) (bq_8_ 32 262143) rfl rfl (any_of HT_.out (by kernel_rfl)) (fun _ _ _ h => h) (Or.inr ⟨by rfl, rfl⟩) ?_ ?_
                     rotate_left
                     ·simp only [Act.put, zA8_, zB8_, zC8_, i64_w, i32_w]
                      rfl
                     refine pure_ (i := 18) (N := some 139) (v := undef) (a' := ?_) (bq_8_ 32 524287) rfl rfl (any_of HT_.out (by kernel_rfl)) (fun _ _ _ h => h) (Or.inr ⟨by rfl, rfl⟩) ?_ ?_
                     rotate_left
                     ·simp only [Act.put, zA8_, zB8_, zC8_, i64_w, i32_w]
                      rfl
                     refine pure_ (i := 19) (N := some 140) (v := ?_) (a' := ?_) (bq_8_ 32 1048575) rfl rfl (any_of HT_.out (by kernel_rfl)) (fun _ _ _ h => h) (Or.inl ⟨by rfl, ?_⟩) ?_ ?_
                     rotate_left
                     ·intro w'
                      go_simp
                      with_reducible rfl
                     rotate_left
                     ·simp only [Act.put, zA8_, zB8_, zC8_, i64_w, i32_w]
                      rfl
                     refine pure_ (i := 20) (N := some 141) (v := ?_) (a' := ?_) (bq_8_ 32 2097151) rfl rfl (any_of HT_.out (by kernel_rfl)) (fun _ _ _ h => h) (Or.inl ⟨by rfl, ?_⟩) ?_ ?_
                     rotate_left
                     ·intro w'
                      go_simp
                      with_reducible rfl
                     rotate_left
                     ·simp only [Act.put, zA8_, zB8_, zC8_, i64_w, i32_w]
                      rfl
                     refine pure_ (i := 21) (N := some 142) (v := ?_) (a' := ?_) (bq_8_ 32 4194303) rfl rfl (any_of HT_.out (by kernel_rfl)) (fun _ _ _ h => h) (Or.inl ⟨by rfl, ?_⟩) ?_ ?_
                     rotate_left
                     ·intro w'
                      go_simp
                      with_reducible rfl
                     rotate_left
                     ·simp only [Act.put, zA8_, zB8_, zC8_, i64_w, i32_w]
                      rfl
                     refine pure_ (i := 22) (N := some 143) (v := ?_) (a' := ?_) (bq_8_ 32 8388607) rfl rfl (any_of HT_.out (by kernel_rfl)) (fun _ _ _ h => h) (Or.inl ⟨by rfl, ?_⟩) ?_ ?_
                     rotate_left
                     ·intro w'
                      go_simp
                      with_reducible rfl
                     rotate_left
                     ·simp only [Act.put, zA8_, zB8_, zC8_, i64_w, i32_w]
                      rfl
                     refine pure_ (i := 23) (N := some 144) (v := ?_) (a' := ?_) (bq_8_ 32 16777215) rfl rfl (any_of HT_.out (by kernel_rfl)) (fun _ _ _ h => h) (Or.inl ⟨by rfl, ?_⟩) ?_ ?_
                     rotate_left
                     ·intro w'
                      go_simp
                      with_reducible rfl
                     rotate_left
                     ·simp only [Act.put, zA8_, zB8_, zC8_, i64_w, i32_w]
                      rfl
                     refine pure_ (i := 24) (N := some 145) (v := ?_) (a' := ?_) (bq_8_ 32 33554431) rfl rfl (any_of HT_.out (by kernel_rfl)) (fun _ _ _ h => h) (Or.inl ⟨by rfl, ?_⟩) ?_ ?_
                     rotate_left
                     ·intro w'
                      go_simp
                      with_reducible rfl
                     rotate_left
                     ·simp only [Act.put, zA8_, zB8_, zC8_, i64_w, i32_w]
                      rfl
                     refine pure_ (i := 25) (N := some 146) (v := ?_) (a' := ?_) (bq_8_ 32 67108863) rfl rfl (any_of HT_.out (by kernel_rfl)) (fun _ _ _ h => h) (Or.inl ⟨by rfl, ?_⟩) ?_ ?_
                     rotate_left
                     ·intro w'
                      go_simp
                      with_reducible rfl
                     rotate_left
                     ·simp only [Act.put, zA8_, zB8_, zC8_, i64_w, i32_w]
                      rfl
                     refine pure_ (i := 26) (N := some 147) (v := ?_) (a' := ?_) (bq_8_ 32 134217727) rfl rfl (any_of HT_.out (by kernel_rfl)) (fun _ _ _ h => h) (Or.inl ⟨by rfl, ?_⟩) ?_ ?_
                     rotate_left
                     ·intro w'
                      go_simp
                      with_reducible rfl
                     rotate_left
                     ·simp only [Act.put, zA8_, zB8_, zC8_, i64_w, i32_w]
                      rfl
                     refine pure_ (i := 27) (N := some 148) (v := ?_) (a' := ?_) (bq_8_ 32 268435455) rfl rfl (any_of HT_.out (by kernel_rfl)) (fun _ _ _ h => h) (Or.inl ⟨by rfl, ?_⟩) ?_ ?_
                     rotate_left
                     ·intro w'
                      go_simp
                      with_reducible rfl
                     rotate_left
                     ·simp only [Act.put, zA8_, zB8_, zC8_, i64_w, i32_w]
                      rfl
                     refine pure_ (i := 28) (N := some 149) (v := ?_) (a' := ?_) (bq_8_ 32 536870911) rfl rfl (any_of HT_.out (by kernel_rfl)) (fun _ _ _ h => h) (Or.inl ⟨by rfl, ?_⟩) ?_ ?_
                     rotate_left
                     ·intro w'
                      go_simp
                      with_reducible rfl
                     rotate_left
                     ·simp only [Act.put, zA8_, zB8_, zC8_, i64_w, i32_w]
                      rfl
                     refine pure_ (i := 29) (N := some 150) (v := ?_) (a' := ?_) (bq_8_ 32 1073741823) rfl rfl (any_of HT_.out (by kernel_rfl)) (fun _ _ _ h => h) (Or.inl ⟨by rfl, ?_⟩) ?_ ?_
                     rotate_left
                     ·intro w'
                      go_simp
                      with_reducible rfl
                     rotate_left
                     ·simp only [Act.put, zA8_, zB8_, zC8_, i64_w, i32_w]
                      rfl
                     refine pure_ (i := 30) (N := some 151) (v := ?_) (a' := ?_) (bq_8_ 32 2147483647) rfl rfl (any_of HT_.out (by kernel_rfl)) (fun _ _ _ h => h) (Or.inl ⟨by rfl, ?_⟩) ?_ ?_
                     rotate_left
                     ·intro w'
                      go_simp
                      with_reducible rfl
                     rotate_left
                     ·simp only [Act.put, zA8_, zB8_, zC8_, i64_w, i32_w]
                      rfl
                     refine pure_ (i := 31) (N := some 152) (v := ?_) (a' := ?_) (bq_8_ 32 4294967295) rfl rfl (any_of HT_.out (by kernel_rfl)) (fun _ _ _ h => h) (Or.inl ⟨by rfl, ?_⟩) ?_ ?_
                     rotate_left
                     ·intro w'
                      go_simp
                      with_reducible rfl
                     rotate_left
                     ·simp only [Act.put, zA8_, zB8_, zC8_, i64_w, i32_w]
                      rfl
                     refine done_ (done_of HT_.out (by kernel_rfl)) ?_
                     try go_wp2_with (first | ((with_reducible refine gate_callee (f := 18) rfl ?_); refine goesL_ (some 155) rfl rfl Try.func18 (by kernel_rfl) rfl #[.string x2_9] rfl (by (try simp only [List.map_toArray, List.map_cons, List.map_nil]); first | done | rfl | (simp only [List.length_drop, List.length_take]; rfl)) ?_; (with_reducible refine (num_ReadS.calls k4 x2_9 t191 t192 false _ A78.out).mono ?_); rintro e w' ⟨rfl, ⟨nd, rfl⟩⟩; refine ⟨_, rfl, ?_⟩))
                     (try (rw [drewN_self w96]; generalize hq_ : World.drewN w96 _ = w96; have n0_ : Aside0 (Below w.heap.size w w96) := ⟨by rw [← hq_]; exact (by repeat (first | (with_reducible first | exact HB.out | apply below_alloc | apply pw_below_drewN | apply below_drew1) | exact HB.out))⟩; clear HB hq_; have HB := n0_; clear n0_))
                     have n0_ := Aside0.mk (below_drew1 HB.out)
                     clear HB
                     have HB := n0_
                     clear n0_
                     refine start_ (n := 32) (S := fun w' => True) (ds := []) #[false, false, false, false, false, false, false, false, false, false, false, false, false, false, false, false, false, false, false, false, false, false, false, false, false, false, false, false, false, false, false, false] (by kernel_rfl) rfl rfl trivial (fun hHeld => ?_); refine with_tabW wapentakelaw01_NumBack.tab26 wapentakelaw01_NumBack.bits26 (fun HT_ HW_ => ?_)
                     generalize w96.drew = w97 at HB hHeld ⊢
                     refine pure_ (i := 0) (N := some 159) (v := ?_) (a' := ?_) (bq_8_ 32 1) rfl rfl (any_of HT_.out (by kernel_rfl)) (fun _ _ _ h => h) (Or.inl ⟨by rfl, ?_⟩) ?_ ?_
                     rotate_left
                     ·intro w'
                      go_simp
                      with_reducible rfl
                     rotate_left
                     ·simp only [Act.put, zA8_, zB8_, zC8_, i64_w, i32_w]
                      rfl
                     refine pure_ (i := 1) (N := some 160) (v := ?_) (a' := ?_) (bq_8_ 32 3) rfl rfl (any_of HT_.out (by kernel_rfl)) (fun _ _ _ h => h) (Or.inl ⟨by rfl, ?_⟩) ?_ ?_
                     rotate_left
                     ·intro w'
                      go_simp
                      with_reducible rfl
                     rotate_left
                     ·simp only [Act.put, zA8_, zB8_, zC8_, i64_w, i32_w]
                      rfl
                     refine pure_ (i := 2) (N := some 161) (v := ?_) (a' := ?_) (bq_8_ 32 7) rfl rfl (any_of HT_.out (by kernel_rfl)) (fun _ _ _ h => h) (Or.inl ⟨by rfl, ?_⟩) ?_ ?_
                     rotate_left
                     ·intro w'
                      go_simp
                      with_reducible rfl
                     rotate_left
                     ·simp only [Act.put, zA8_, zB8_, zC8_, i64_w, i32_w]
                      rfl
                     refine pure_ (i := 3) (N := some 162) (v := ?_) (a' := ?_) (bq_8_ 32 15) rfl rfl (any_of HT_.out (by kernel_rfl)) (fun _ _ _ h => h) (Or.inl ⟨by rfl, ?_⟩) ?_ ?_
                     rotate_left
                     ·intro w'
                      go_simp
                      with_reducible rfl
                     rotate_left
                     ·simp only [Act.put, zA8_, zB8_, zC8_, i64_w, i32_w]
                      rfl
                     refine pure_ (i := 4) (N := some 163) (v := ?_) (a' := ?_) (bq_8_ 32 31) rfl rfl (any_of HT_.out (by kernel_rfl)) (fun _ _ _ h => h) (Or.inl ⟨by rfl, ?_⟩) ?_ ?_
                     rotate_left
                     ·intro w'
                      go_simp
                      with_reducible rfl
                     rotate_left
                     ·simp only [Act.put, zA8_, zB8_, zC8_, i64_w, i32_w]
                      rfl
                     refine pure_ (i := 5) (N := some 164) (v := ?_) (a' := ?_) (bq_8_ 32 63) rfl rfl (any_of HT_.out (by kernel_rfl)) (fun _ _ _ h => h) (Or.inl ⟨by rfl, ?_⟩) ?_ ?_
                     rotate_left
                     ·intro w'
                      go_simp
                      with_reducible rfl
                     rotate_left
                     ·simp only [Act.put, zA8_, zB8_, zC8_, i64_w, i32_w]
                      rfl
                     refine pure_ (i := 6) (N := some 165) (v := ?_) (a' := ?_) (bq_8_ 32 127) rfl rfl (any_of HT_.out (by kernel_rfl)) (fun _ _ _ h => h) (Or.inl ⟨by rfl, ?_⟩) ?_ ?_
                     rotate_left
                     ·intro w'
                      go_simp
                      with_reducible rfl
                     rotate_left
                     ·simp only [Act.put, zA8_, zB8_, zC8_, i64_w, i32_w]
                      rfl
                     refine pure_ (i := 7) (N := some 166) (v := ?_) (a' := ?_) (bq_8_ 32 255) rfl rfl (any_of HT_.out (by kernel_rfl)) (fun _ _ _ h => h) (Or.inl ⟨by rfl, ?_⟩) ?_ ?_
                     rotate_left
                     ·intro w'
                      go_simp
                      with_reducible rfl
                     rotate_left
                     ·simp only [Act.put, zA8_, zB8_, zC8_, i64_w, i32_w]
                      rfl
                     refine pure_ (i := 8) (N := some 167) (v := ?_) (a' := ?_) (bq_8_ 32 511) rfl rfl (any_of HT_.out (by kernel_rfl)) (fun _ _ _ h => h) (Or.inl ⟨by rfl, ?_⟩) ?_ ?_
                     rotate_left
                     ·intro w'
                      go_simp
                      with_reducible rfl
                     rotate_left
                     ·simp only [Act.put, zA8_, zB8_, zC8_, i64_w, i32_w]
                      rfl
                     refine pure_ (i := 9) (N := some 168) (v := ?_) (a' := ?_) (bq_8_ 32 1023) rfl rfl (any_of HT_.out (by kernel_rfl)) (fun _ _ _ h => h) (Or.inl ⟨by rfl, ?_⟩) ?_ ?_
                     rotate_left
                     ·intro w'
                      go_simp
                      with_reducible rfl
                     rotate_left
                     ·simp only [Act.put, zA8_, zB8_, zC8_, i64_w, i32_w]
                      rfl
                     refine pure_ (i := 10) (N := some 169) (v := ?_) (a' := ?_) (bq_8_ 32 2047) rfl rfl (any_of HT_.out (by kernel_rfl)) (fun _ _ _ h => h) (Or.inl ⟨by rfl, ?_⟩) ?_ ?_
                     rotate_left
                     ·intro w'
                      go_simp
                      with_reducible rfl
                     rotate_left
                     ·simp only [Act.put, zA8_, zB8_, zC8_, i64_w, i32_w]
                      rfl
                     refine pure_ (i := 11) (N := some 170) (v := undef) (a' := ?_) (bq_8_ 32 4095) rfl rfl (any_of HT_.out (by kernel_rfl)) (fun _ _ _ h => h) (Or.inr ⟨by rfl, rfl⟩) ?_ ?_
                     rotate_left
                     ·simp only [Act.put, zA8_, zB8_, zC8_, i64_w, i32_w]
                      rfl
                     refine pure_ (i := 12) (N := some 171) (v := undef) (a' := ?_) (bq_8_ 32 8191) rfl rfl (any_of HT_.out (by kernel_rfl)) (fun _ _ _ h => h) (Or.inr ⟨by rfl, rfl⟩) ?_ ?_
                     rotate_left
                     ·simp only [Act.put, zA8_, zB8_, zC8_, i64_w, i32_w]
                      rfl
                     refine pure_ (i := 13) (N := some 172) (v := undef) (a' := ?_) (bq_8_ 32 16383) rfl rfl (any_of HT_.out (by kernel_rfl)) (fun _ _ _ h => h) (Or.inr ⟨by rfl, rfl⟩) ?_ ?_
                     rotate_left
                     ·simp only [Act.put, zA8_, zB8_, zC8_, i64_w, i32_w]
                      rfl
                     refine pure_ (i := 14) (N := some 173) (v := undef) (a' := ?_) (bq_8_ 32 32767) rfl rfl (any_of HT_.out (by kernel_rfl)) (fun _ _ _ h => h) (Or.inr ⟨by rfl, rfl⟩) ?_ ?_
                     rotate_left
                     ·simp only [Act.put, zA8_, zB8_, zC8_, i64_w, i32_w]
                      rfl
                     refine pure_ (i := 15) (N := some 174) (v := undef) (a' := ?_) (bq_8_ 32 65535) rfl rfl (any_of HT_.out (by kernel_rfl)) (fun _ _ _ h => h) (Or.inr ⟨by rfl, rfl⟩) ?_ ?_
                     rotate_left
                     ·simp only [Act.put, zA8_, zB8_, zC8_, i64_w, i32_w]
                      rfl
                     refine pure_ (i := 16) (N := some 175) (v := undef) (a' := ?_) (bq_8_ 32 131071) rfl rfl (any_of HT_.out (by kernel_rfl)) (fun _ _ _ h => h) (Or.inr ⟨by rfl, rfl⟩) ?_ ?_
                     rotate_left
                     ·simp only [Act.put, zA8_, zB8_, zC8_, i64_w, i32_w]
                      rfl
                     refine pure_ (i := 17) (N := some 176) (v := undef) (a' := ?_) (bq_8_ 32 262143) rfl rfl (any_of HT_.out (by kernel_rfl)) (fun _ _ _ h => h) (Or.inr ⟨by rfl, rfl⟩) ?_ ?_
                     rotate_left
                     ·simp only [Act.put, zA8_, zB8_, zC8_, i64_w, i32_w]
                      rfl
                     refine pure_ (i := 18) (N := some 177) (v := undef) (a' := ?_) (bq_8_ 32 524287) rfl rfl (any_of HT_.out (by kernel_rfl)) (fun _ _ _ h => h) (Or.inr ⟨by rfl, rfl⟩) ?_ ?_
                     rotate_left
                     ·simp only [Act.put, zA8_, zB8_, zC8_, i64_w, i32_w]
                      rfl
                     refine pure_ (i := 19) (N := some 178) (v := undef) (a' := ?_) (bq_8_ 32 1048575) rfl rfl (any_of HT_.out (by kernel_rfl)) (fun _ _ _ h => h) (Or.inr ⟨by rfl, rfl⟩) ?_ ?_
                     rotate_left
                     ·simp only [Act.put, zA8_, zB8_, zC8_, i64_w, i32_w]
                      rfl
                     refine pure_ (i := 20) (N := some 179) (v := undef) (a' := ?_) (bq_8_ 32 2097151) rfl rfl (any_of HT_.out (by kernel_rfl)) (fun _ _ _ h => h) (Or.inr ⟨by rfl, rfl⟩) ?_ ?_
                     rotate_left
                     ·simp only [Act.put, zA8_, zB8_, zC8_, i64_w, i32_w]
                      rfl
                     refine pure_ (i := 21) (N := some 180) (v := undef) (a' := ?_) (bq_8_ 32 4194303) rfl rfl (any_of HT_.out (by kernel_rfl)) (fun _ _ _ h => h) (Or.inr ⟨by rfl, rfl⟩) ?_ ?_
                     rotate_left
                     ·simp only [Act.put, zA8_, zB8_, zC8_, i64_w, i32_w]
                      rfl
                     refine pure_ (i := 22) (N := some 181) (v := undef) (a' := ?_) (bq_8_ 32 8388607) rfl rfl (any_of HT_.out (by kernel_rfl)) (fun _ _ _ h => h) (Or.inr ⟨by rfl, rfl⟩) ?_ ?_
                     rotate_left
                     ·simp only [Act.put, zA8_, zB8_, zC8_, i64_w, i32_w]
                      rfl
                     refine pure_ (i := 23) (N := some 182) (v := undef) (a' := ?_) (bq_8_ 32 16777215) rfl rfl (any_of HT_.out (by kernel_rfl)) (fun _ _ _ h => h) (Or.inr ⟨by rfl, rfl⟩) ?_ ?_
                     rotate_left
                     ·simp only [Act.put, zA8_, zB8_, zC8_, i64_w, i32_w]
                      rfl
                     refine pure_ (i := 24) (N := some 183) (v := undef) (a' := ?_) (bq_8_ 32 33554431) rfl rfl (any_of HT_.out (by kernel_rfl)) (fun _ _ _ h => h) (Or.inr ⟨by rfl, rfl⟩) ?_ ?_
                     rotate_left
                     ·simp only [Act.put, zA8_, zB8_, zC8_, i64_w, i32_w]
                      rfl
                     refine pure_ (i := 25) (N := some 184) (v := undef) (a' := ?_) (bq_8_ 32 67108863) rfl rfl (any_of HT_.out (by kernel_rfl)) (fun _ _ _ h => h) (Or.inr ⟨by rfl, rfl⟩) ?_ ?_
                     rotate_left
                     ·simp only [Act.put, zA8_, zB8_, zC8_, i64_w, i32_w]
                      rfl
                     refine pure_ (i := 26) (N := some 185) (v := undef) (a' := ?_) (bq_8_ 32 134217727) rfl rfl (any_of HT_.out (by kernel_rfl)) (fun _ _ _ h => h) (Or.inr ⟨by rfl, rfl⟩) ?_ ?_
                     rotate_left
                     ·simp only [Act.put, zA8_, zB8_, zC8_, i64_w, i32_w]
                      rfl
                     refine pure_ (i := 27) (N := some 186) (v := ?_) (a' := ?_) (bq_8_ 32 268435455) rfl rfl (any_of HT_.out (by kernel_rfl)) (fun _ _ _ h => h) (Or.inl ⟨by rfl, ?_⟩) ?_ ?_
                     rotate_left
                     ·intro w'
                      go_simp
                      with_reducible rfl
                     rotate_left
                     ·simp only [Act.put, zA8_, zB8_, zC8_, i64_w, i32_w]
                      rfl
                     refine pure_ (i := 28) (N := some 187) (v := ?_) (a' := ?_) (bq_8_ 32 536870911) rfl rfl (any_of HT_.out (by kernel_rfl)) (fun _ _ _ h => h) (Or.inl ⟨by rfl, ?_⟩) ?_ ?_
                     rotate_left
                     ·intro w'
                      go_simp
                      with_reducible rfl
                     rotate_left
                     ·simp only [Act.put, zA8_, zB8_, zC8_, i64_w, i32_w]
                      rfl
                     refine one_ (i := 29) (N := some 188) (bq_8_ 32 1073741823) rfl rfl (one_of HT_.out (by kernel_rfl)) (by decide) (fun K hK => ?_)
                     refine goes_ Try.func10 (by kernel_rfl) rfl #[] (by rfl) rfl rfl (by (try simp only [List.map_toArray, List.map_cons, List.map_nil]); first | done | rfl | (simp only [List.length_drop, List.length_take]; rfl)) ?_
                     with_reducible refine (wapentakelaw01_awake.calls k4  t199 _ A95.out).mono ?_
                     rintro e w98 ⟨rfl, hb⟩
                     refine ⟨_, rfl, ?_⟩
                     have n0_ := Aside0.mk (below_step (by repeat (first | (with_reducible first | exact HB.out | apply below_alloc | apply pw_below_drewN | apply below_drew1) | exact HB.out)) hb)
                     clear HB
                     have HB := n0_
                     clear n0_
                     (try clear hb)
                     (try clear hb2)
                     (try clear hk)
                     (try clear hi)
                     refine hK.out _ _ trivial (fun hHeld => ?_)
                     clear hK K
                     refine norm_ (a' := ?_) ?_ ?_
                     rotate_left
                     ·show Act.put _ (some 188) _ = _
                      simp only [Act.put, zA8_, zB8_, zC8_, i64_w, i32_w]
                      rfl
                     refine pure_ (i := 30) (N := some 189) (v := ?_) (a' := ?_) (bq_8_ 32 2147483647) rfl rfl (any_of HT_.out (by kernel_rfl)) (fun _ _ _ h => h) (Or.inl ⟨by rfl, ?_⟩) ?_ ?_
                     rotate_left
                     ·intro w'
                      go_simp
                      with_reducible rfl
                     rotate_left
                     ·simp only [Act.put, zA8_, zB8_, zC8_, i64_w, i32_w]
                      rfl
                     refine pure_ (i := 31) (N := some 6) (v := ?_) (a' := ?_) (bq_8_ 32 4294967295) rfl rfl (any_of HT_.out (by kernel_rfl)) (fun _ _ _ h => h) (Or.inl ⟨by rfl, ?_⟩) ?_ ?_
                     rotate_left
                     ·intro w'
                      go_simp
                      with_reducible rfl
                     rotate_left
                     ·simp only [Act.put, zA8_, zB8_, zC8_, i64_w, i32_w]
                      rfl
                     refine done_ (done_of HT_.out (by kernel_rfl)) ?_
                     try go_wp2
                     go_ret
                     exact ⟨by first | rfl | (simp [errW_none, errW_some] <;> rfl) | (simp [*, errW_none, errW_some] <;> rfl), by repeat (first | (with_reducible first | exact HB.out | apply below_alloc | apply pw_below_drewN | apply below_drew1) | exact HB.out)⟩
                    ·rw [if_neg c94] at H
                     have c94b0 : (t192 == 0) = false := beq_eq_false_iff_ne.mpr c94
                     have c94b1 : (t192 != 0) = true := bne_iff_ne.mpr c94
                     exact absurd (Option.some.inj H) (by rw [hr_]; decide)
                   ·rw [if_neg c93] at H
                    have c93b0 : (t191.toList == ([] : List UInt8)) = false := beq_eq_false_iff_ne.mpr c93
                    have c93b1 : (t191.toList != ([] : List UInt8)) = true := bne_iff_ne.mpr c93
                    exact absurd (Option.some.inj H) (by rw [hr_]; decide)
                 ·rw [if_neg c77] at H
                  have c77b0 : (t176 == 0) = false := beq_eq_false_iff_ne.mpr c77
                  have c77b1 : (t176 != 0) = true := bne_iff_ne.mpr c77
                  exact absurd (Option.some.inj H) (by rw [hr_]; decide)
                ·rw [if_neg c76] at H
                 have c76b0 : (t175 == 0) = false := beq_eq_false_iff_ne.mpr c76
                 have c76b1 : (t175 != 0) = true := bne_iff_ne.mpr c76
                 exact absurd (Option.some.inj H) (by rw [hr_]; decide)
              ·rw [if_neg c38] at H
               have c38b0 : (x7_4.toList == x2_9.toList) = false := beq_eq_false_iff_ne.mpr c38
               have c38b1 : (x7_4.toList != x2_9.toList) = true := bne_iff_ne.mpr c38
               exact absurd (Option.some.inj H) (by rw [hr_]; decide)
       ·rw [if_neg c17] at H
        exact absurd H (by simp)
      ·rw [if_neg c16] at H
       exact absurd H (by simp)

def wapentakelaw01_NumBack.Pure : Prop := ∀ (l0 : List Int) (l1 : List ByteArray) (a2 : ByteArray), (l0.length ≤ 9223372036854775807 ∧ ∀ y0_ ∈ l0, (Lit.int .u64 y0_).wf = true) → (l1.length ≤ 9223372036854775807 ∧ ∀ y1_ ∈ l1, y1_.size ≤ 9223372036854775807) → a2.size ≤ 9223372036854775807 → ∃ k, wapentakelaw01_NumBack.f k l0 l1 a2 = some true

end Go.Proofs.Ythdjecgiefednaa.P
