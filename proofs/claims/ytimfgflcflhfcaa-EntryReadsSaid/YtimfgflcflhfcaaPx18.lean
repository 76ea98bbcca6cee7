-- Written by wip/tools/myprint.sh out of the translation, over the kit's print with a patch. Not trusted: Lean checks it.
import Derived.Test.YtimfgflcflhfcaaPx0
import Derived.Test.YtimfgflcflhfcaaPx13
import Derived.Test.YtimfgflcflhfcaaPx17
namespace Go.Proofs.Ytimfgflcflhfcaa.P
open Go.RowKit Go.Proofs.YtimfgflcflhfcaaW.PrintWords Go.Proofs.YtimfgflcflhfcaaW.PrintLast Go.Proofs.YtimfgflcflhfcaaW.PrintMore Go.Proofs.Ytimfgflcflhfcaa.Num
attribute [local go_sem] max2_int min2_int max_two min_two max_three min_three max_four min_four   -- for this text's walks alone
set_option linter.unusedVariables false
set_option linter.unusedSimpArgs false

def bq_18_ (n m : Nat) : Array Bool := ((List.range n).map fun i => m.testBit i).toArray
theorem zA18_ {α : Type} (l : List α) (i : Nat) (a : α) : l.toArray.setIfInBounds i a = (l.set i a).toArray := List.setIfInBounds_toArray ..
theorem zB18_ {α : Type} (a b : α) (l : List α) : (a :: l).set 0 b = b :: l := List.set_cons_zero ..
theorem zC18_ {α : Type} (a b : α) (l : List α) (n : Nat) : (a :: l).set (n + 1) b = a :: l.set n b := List.set_cons_succ ..
/-! ### wapentakeref04_Read: function 17 -/
mutual
def wapentakeref04_Read.j1 : Nat → ByteArray → Int → Int → Int → Int → Int → Int → Int → Int → Int → Int → Int → Int → Int → ByteArray → Option (Int × Int × Int × Int × Int × Int × Int × Int × Int × Int × Int × Int × ByteArray × Bool)
 | 0, _, _, _, _, _, _, _, _, _, _, _, _, _, _, _ => none
 | k + 1, x0, x10, x307000, x307001, x307002, x307003, x307004, x307005, x307006, x307007, x307008, x307009, x307010, x307011, x307012 => if x307002 ≥ 2 then (wapentakeref04_Read.j2 k x0 x10 (decide (x307002 ≤ 4)) x307000 x307001 x307002 x307003 x307004 x307005 x307006 x307007 x307008 x307009 x307010 x307011 x307012) else (wapentakeref04_Read.j2 k x0 x10 false x307000 x307001 x307002 x307003 x307004 x307005 x307006 x307007 x307008 x307009 x307010 x307011 x307012)
def wapentakeref04_Read.j2 : Nat → ByteArray → Int → Bool → Int → Int → Int → Int → Int → Int → Int → Int → Int → Int → Int → Int → ByteArray → Option (Int × Int × Int × Int × Int × Int × Int × Int × Int × Int × Int × Int × ByteArray × Bool)
 | 0, _, _, _, _, _, _, _, _, _, _, _, _, _, _, _, _ => none
 | k + 1, x0, x10, x87, x307000, x307001, x307002, x307003, x307004, x307005, x307006, x307007, x307008, x307009, x307010, x307011, x307012 => if x87 = true then (if 0 ≤ x10 then (if x10 ≤ (x0.size : Int) then ((wapentakeref01_ReadS.f k (x0.extract (x10 : Int).toNat x0.size)).bind fun bt313 => (if bt313.2.2 = true then (if (wrap64 (x10 + bt313.2.1)) = (x0.size : Int) then ((wapentakeref04_Right.f k x307000 x307001 x307002 x307003 x307004 x307005 x307006 x307007 x307008 x307009 x307010 x307011 bt313.1).bind fun t316 => (if t316 = true then (some (x307000, x307001, x307002, x307003, x307004, x307005, x307006, x307007, x307008, x307009, x307010, x307011, bt313.1, true)) else (some (0, 0, 0, 0, 0, 0, 0, 0, 0, 0, 0, 0, (⟨#[]⟩ : ByteArray), false)))) else (some (0, 0, 0, 0, 0, 0, 0, 0, 0, 0, 0, 0, (⟨#[]⟩ : ByteArray), false))) else (some (0, 0, 0, 0, 0, 0, 0, 0, 0, 0, 0, 0, (⟨#[]⟩ : ByteArray), false)))) else (none)) else (none)) else (if x10 = (x0.size : Int) then ((wapentakeref04_Right.f k x307000 x307001 x307002 x307003 x307004 x307005 x307006 x307007 x307008 x307009 x307010 x307011 x307012).bind fun t317 => (if t317 = true then (some (x307000, x307001, x307002, x307003, x307004, x307005, x307006, x307007, x307008, x307009, x307010, x307011, x307012, true)) else (some (0, 0, 0, 0, 0, 0, 0, 0, 0, 0, 0, 0, (⟨#[]⟩ : ByteArray), false)))) else (some (0, 0, 0, 0, 0, 0, 0, 0, 0, 0, 0, 0, (⟨#[]⟩ : ByteArray), false)))
def wapentakeref04_Read.l0 : Nat → ByteArray → Int → Int → Int → Int → Int → Int → Int → Int → Int → Int → Int → Int → Int → Int → ByteArray → Option (Int × Int × Int × Int × Int × Int × Int × Int × Int × Int × Int × Int × ByteArray × Bool)
 | 0, _, _, _, _, _, _, _, _, _, _, _, _, _, _, _, _ => none
 | k + 1, x0, x10, x11, x307000, x307001, x307002, x307003, x307004, x307005, x307006, x307007, x307008, x307009, x307010, x307011, x307012 => if x11 < 8 then (if 0 ≤ (wrap64 ((wrap64 (x10 + 1)) + x11)) then (if (wrap64 ((wrap64 (x10 + 1)) + x11)) < (x0.size : Int) then (if 0 ≤ x11 then (if x11 = 0 then (wapentakeref04_Read.l0 k x0 x10 (wrap64 (x11 + 1)) x307000 x307001 x307002 x307003 (bt x0 (wrap64 ((wrap64 (x10 + 1)) + x11))) x307005 x307006 x307007 x307008 x307009 x307010 x307011 x307012) else (if x11 = 1 then (wapentakeref04_Read.l0 k x0 x10 (wrap64 (x11 + 1)) x307000 x307001 x307002 x307003 x307004 (bt x0 (wrap64 ((wrap64 (x10 + 1)) + x11))) x307006 x307007 x307008 x307009 x307010 x307011 x307012) else (if x11 = 2 then (wapentakeref04_Read.l0 k x0 x10 (wrap64 (x11 + 1)) x307000 x307001 x307002 x307003 x307004 x307005 (bt x0 (wrap64 ((wrap64 (x10 + 1)) + x11))) x307007 x307008 x307009 x307010 x307011 x307012) else (if x11 = 3 then (wapentakeref04_Read.l0 k x0 x10 (wrap64 (x11 + 1)) x307000 x307001 x307002 x307003 x307004 x307005 x307006 (bt x0 (wrap64 ((wrap64 (x10 + 1)) + x11))) x307008 x307009 x307010 x307011 x307012) else (if x11 = 4 then (wapentakeref04_Read.l0 k x0 x10 (wrap64 (x11 + 1)) x307000 x307001 x307002 x307003 x307004 x307005 x307006 x307007 (bt x0 (wrap64 ((wrap64 (x10 + 1)) + x11))) x307009 x307010 x307011 x307012) else (if x11 = 5 then (wapentakeref04_Read.l0 k x0 x10 (wrap64 (x11 + 1)) x307000 x307001 x307002 x307003 x307004 x307005 x307006 x307007 x307008 (bt x0 (wrap64 ((wrap64 (x10 + 1)) + x11))) x307010 x307011 x307012) else (if x11 = 6 then (wapentakeref04_Read.l0 k x0 x10 (wrap64 (x11 + 1)) x307000 x307001 x307002 x307003 x307004 x307005 x307006 x307007 x307008 x307009 (bt x0 (wrap64 ((wrap64 (x10 + 1)) + x11))) x307011 x307012) else (if x11 = 7 then (wapentakeref04_Read.l0 k x0 x10 (wrap64 (x11 + 1)) x307000 x307001 x307002 x307003 x307004 x307005 x307006 x307007 x307008 x307009 x307010 (bt x0 (wrap64 ((wrap64 (x10 + 1)) + x11))) x307012) else (none))))))))) else (none)) else (none)) else (none)) else (wapentakeref04_Read.j1 k x0 (wrap64 (x10 + 9)) x307000 x307001 x307002 x307003 x307004 x307005 x307006 x307007 x307008 x307009 x307010 x307011 x307012)
end
def wapentakeref04_Read.f (k : Nat) (a0 : ByteArray) : Option (Int × Int × Int × Int × Int × Int × Int × Int × Int × Int × Int × Int × ByteArray × Bool) := if (a0.size : Int) < 3 then (some (0, 0, 0, 0, 0, 0, 0, 0, 0, 0, 0, 0, (⟨#[]⟩ : ByteArray), false)) else (if 0 < (a0.size : Int) then (if 1 ≤ (a0.size : Int) then ((wapentakeref01_ReadV.f k (a0.extract 1 a0.size)).bind fun bt307 => (if bt307.2.2 = true then (if 0 ≤ (wrap64 (1 + bt307.2.1)) then (if (wrap64 (1 + bt307.2.1)) ≤ (a0.size : Int) then ((wapentakeref01_ReadV.f k (a0.extract ((wrap64 (1 + bt307.2.1)) : Int).toNat a0.size)).bind fun bt310 => (if bt310.2.2 = true then (if (bt a0 0) = 3 then (if (wrap64 ((wrap64 ((wrap64 (1 + bt307.2.1)) + bt310.2.1)) + 9)) > (a0.size : Int) then (some (0, 0, 0, 0, 0, 0, 0, 0, 0, 0, 0, 0, (⟨#[]⟩ : ByteArray), false)) else (if 0 ≤ (wrap64 ((wrap64 (1 + bt307.2.1)) + bt310.2.1)) then (if (wrap64 ((wrap64 (1 + bt307.2.1)) + bt310.2.1)) < (a0.size : Int) then (wapentakeref04_Read.l0 k a0 (wrap64 ((wrap64 (1 + bt307.2.1)) + bt310.2.1)) 0 bt307.1 bt310.1 (bt a0 0) (bt a0 (wrap64 ((wrap64 (1 + bt307.2.1)) + bt310.2.1))) 0 0 0 0 0 0 0 0 (⟨#[]⟩ : ByteArray)) else (none)) else (none))) else (wapentakeref04_Read.j1 k a0 (wrap64 ((wrap64 (1 + bt307.2.1)) + bt310.2.1)) bt307.1 bt310.1 (bt a0 0) 0 0 0 0 0 0 0 0 0 (⟨#[]⟩ : ByteArray))) else (some (0, 0, 0, 0, 0, 0, 0, 0, 0, 0, 0, 0, (⟨#[]⟩ : ByteArray), false)))) else (none)) else (none)) else (some (0, 0, 0, 0, 0, 0, 0, 0, 0, 0, 0, 0, (⟨#[]⟩ : ByteArray), false)))) else (none)) else (none))
theorem wapentakeref04_Read.mono_l : ∀ k, (∀ y0 y1 y2 y3 y4 y5 y6 y7 y8 y9 y10 y11 y12 y13 y14, LeO (wapentakeref04_Read.j1 k y0 y1 y2 y3 y4 y5 y6 y7 y8 y9 y10 y11 y12 y13 y14) (wapentakeref04_Read.j1 (k + 1) y0 y1 y2 y3 y4 y5 y6 y7 y8 y9 y10 y11 y12 y13 y14)) ∧ (∀ y0 y1 y2 y3 y4 y5 y6 y7 y8 y9 y10 y11 y12 y13 y14 y15, LeO (wapentakeref04_Read.j2 k y0 y1 y2 y3 y4 y5 y6 y7 y8 y9 y10 y11 y12 y13 y14 y15) (wapentakeref04_Read.j2 (k + 1) y0 y1 y2 y3 y4 y5 y6 y7 y8 y9 y10 y11 y12 y13 y14 y15)) ∧ (∀ y0 y1 y2 y3 y4 y5 y6 y7 y8 y9 y10 y11 y12 y13 y14 y15, LeO (wapentakeref04_Read.l0 k y0 y1 y2 y3 y4 y5 y6 y7 y8 y9 y10 y11 y12 y13 y14 y15) (wapentakeref04_Read.l0 (k + 1) y0 y1 y2 y3 y4 y5 y6 y7 y8 y9 y10 y11 y12 y13 y14 y15))
 | 0 => ⟨fun _ _ _ _ _ _ _ _ _ _ _ _ _ _ _ r h => by simp [wapentakeref04_Read.j1] at h, fun _ _ _ _ _ _ _ _ _ _ _ _ _ _ _ _ r h => by simp [wapentakeref04_Read.j2] at h, fun _ _ _ _ _ _ _ _ _ _ _ _ _ _ _ _ r h => by simp [wapentakeref04_Read.l0] at h⟩
 | k + 1 => by
  obtain ⟨ih0, ih1, ih2⟩ := wapentakeref04_Read.mono_l k
  refine ⟨?_, ?_, ?_⟩
  ·intro y0 y1 y2 y3 y4 y5 y6 y7 y8 y9 y10 y11 y12 y13 y14
   unfold wapentakeref04_Read.j1
   repeat' first
   | (with_reducible exact ih0 _ _ _ _ _ _ _ _ _ _ _ _ _ _ _)
   | (with_reducible exact ih1 _ _ _ _ _ _ _ _ _ _ _ _ _ _ _ _)
   | (with_reducible exact ih2 _ _ _ _ _ _ _ _ _ _ _ _ _ _ _ _)
   | (with_reducible exact wapentakeref01_ReadS.mono _ _)
   | (with_reducible exact wapentakeref01_ReadV.mono _ _)
   | (with_reducible exact wapentakeref04_Right.mono _ _ _ _ _ _ _ _ _ _ _ _ _ _)
   | (with_reducible exact LeO.refl _)
   | (with_reducible exact LeO.none _)
   | (with_reducible refine LeO.ite ?_ ?_)
   | (with_reducible refine LeO.bind ?_ (fun _ => ?_))
   | exact ih0 _ _ _ _ _ _ _ _ _ _ _ _ _ _ _
   | exact ih1 _ _ _ _ _ _ _ _ _ _ _ _ _ _ _ _
   | exact ih2 _ _ _ _ _ _ _ _ _ _ _ _ _ _ _ _
   | exact wapentakeref01_ReadS.mono _ _
   | exact wapentakeref01_ReadV.mono _ _
   | exact wapentakeref04_Right.mono _ _ _ _ _ _ _ _ _ _ _ _ _ _
   | exact LeO.none _
   | refine LeO.ite ?_ ?_
   | refine LeO.bind ?_ (fun _ => ?_)
  ·intro y0 y1 y2 y3 y4 y5 y6 y7 y8 y9 y10 y11 y12 y13 y14 y15
   unfold wapentakeref04_Read.j2
   repeat' first
   | (with_reducible exact ih0 _ _ _ _ _ _ _ _ _ _ _ _ _ _ _)
   | (with_reducible exact ih1 _ _ _ _ _ _ _ _ _ _ _ _ _ _ _ _)
   | (with_reducible exact ih2 _ _ _ _ _ _ _ _ _ _ _ _ _ _ _ _)
   | (with_reducible exact wapentakeref01_ReadS.mono _ _)
   | (with_reducible exact wapentakeref01_ReadV.mono _ _)
   | (with_reducible exact wapentakeref04_Right.mono _ _ _ _ _ _ _ _ _ _ _ _ _ _)
   | (with_reducible exact LeO.refl _)
   | (with_reducible exact LeO.none _)
   | (with_reducible refine LeO.ite ?_ ?_)
   | (with_reducible refine LeO.bind ?_ (fun _ => ?_))
   | exact ih0 _ _ _ _ _ _ _ _ _ _ _ _ _ _ _
   | exact ih1 _ _ _ _ _ _ _ _ _ _ _ _ _ _ _ _
   | exact ih2 _ _ _ _ _ _ _ _ _ _ _ _ _ _ _ _
   | exact wapentakeref01_ReadS.mono _ _
   | exact wapentakeref01_ReadV.mono _ _
   | exact wapentakeref04_Right.mono _ _ _ _ _ _ _ _ _ _ _ _ _ _
   | exact LeO.none _
   | refine LeO.ite ?_ ?_
   | refine LeO.bind ?_ (fun _ => ?_)
  ·intro y0 y1 y2 y3 y4 y5 y6 y7 y8 y9 y10 y11 y12 y13 y14 y15
   unfold wapentakeref04_Read.l0
   repeat' first
   | (with_reducible exact ih0 _ _ _ _ _ _ _ _ _ _ _ _ _ _ _)
   | (with_reducible exact ih1 _ _ _ _ _ _ _ _ _ _ _ _ _ _ _ _)
   | (with_reducible exact ih2 _ _ _ _ _ _ _ _ _ _ _ _ _ _ _ _)
   | (with_reducible exact wapentakeref01_ReadS.mono _ _)
   | (with_reducible exact wapentakeref01_ReadV.mono _ _)
   | (with_reducible exact wapentakeref04_Right.mono _ _ _ _ _ _ _ _ _ _ _ _ _ _)
   | (with_reducible exact LeO.refl _)
   | (with_reducible exact LeO.none _)
   | (with_reducible refine LeO.ite ?_ ?_)
   | (with_reducible refine LeO.bind ?_ (fun _ => ?_))
   | exact ih0 _ _ _ _ _ _ _ _ _ _ _ _ _ _ _
   | exact ih1 _ _ _ _ _ _ _ _ _ _ _ _ _ _ _ _
   | exact ih2 _ _ _ _ _ _ _ _ _ _ _ _ _ _ _ _
   | exact wapentakeref01_ReadS.mono _ _
   | exact wapentakeref01_ReadV.mono _ _
   | exact wapentakeref04_Right.mono _ _ _ _ _ _ _ _ _ _ _ _ _ _
   | exact LeO.none _
   | refine LeO.ite ?_ ?_
   | refine LeO.bind ?_ (fun _ => ?_)
theorem wapentakeref04_Read.mono : ∀ a0 k, LeO (wapentakeref04_Read.f k a0) (wapentakeref04_Read.f (k + 1) a0) := by
 intro a0 k
 obtain ⟨ih0, ih1, ih2⟩ := wapentakeref04_Read.mono_l k
 unfold wapentakeref04_Read.f
 repeat' first
   | (with_reducible exact ih0 _ _ _ _ _ _ _ _ _ _ _ _ _ _ _)
   | (with_reducible exact ih1 _ _ _ _ _ _ _ _ _ _ _ _ _ _ _ _)
   | (with_reducible exact ih2 _ _ _ _ _ _ _ _ _ _ _ _ _ _ _ _)
   | (with_reducible exact wapentakeref01_ReadS.mono _ _)
   | (with_reducible exact wapentakeref01_ReadV.mono _ _)
   | (with_reducible exact wapentakeref04_Right.mono _ _ _ _ _ _ _ _ _ _ _ _ _ _)
   | (with_reducible exact LeO.refl _)
   | (with_reducible exact LeO.none _)
   | (with_reducible refine LeO.ite ?_ ?_)
   | (with_reducible refine LeO.bind ?_ (fun _ => ?_))
   | exact ih0 _ _ _ _ _ _ _ _ _ _ _ _ _ _ _
   | exact ih1 _ _ _ _ _ _ _ _ _ _ _ _ _ _ _ _
   | exact ih2 _ _ _ _ _ _ _ _ _ _ _ _ _ _ _ _
   | exact wapentakeref01_ReadS.mono _ _
   | exact wapentakeref01_ReadV.mono _ _
   | exact wapentakeref04_Right.mono _ _ _ _ _ _ _ _ _ _ _ _ _ _
   | exact LeO.none _
   | refine LeO.ite ?_ ?_
   | refine LeO.bind ?_ (fun _ => ?_)
set_option maxHeartbeats 8000000 in
set_option maxRecDepth 100000 in
theorem wapentakeref04_Read.calls (k : Nat) (a0 : ByteArray) (r1 : Int) (r2 : Int) (r3 : Int) (r4 : Int) (r5 : Int) (r6 : Int) (r7 : Int) (r8 : Int) (r9 : Int) (r10 : Int) (r11 : Int) (r12 : Int) (r13 : ByteArray) (r14 : Bool) (w : World) (h : wapentakeref04_Read.f k a0 = some (r1, r2, r3, r4, r5, r6, r7, r8, r9, r10, r11, r12, r13, r14)) :
  Calls Try.prog 17 #[.string a0] w fun e w' => e = .returned (.tuple #[.agg #[.int .u64 r1, .int .u64 r2, .int .u8 r3, .int .u8 r4, .int .u8 r5, .int .u8 r6, .int .u8 r7, .int .u8 r8, .int .u8 r9, .int .u8 r10, .int .u8 r11, .int .u8 r12, .string r13], .bool r14]) ∧ Below w.heap.size w w' := by
 have hu27 := Try.underlying27
 have HB := Aside0.mk (Below.refl w.heap.size w)
 have H : (if (a0.size : Int) < 3 then (some (0, 0, 0, 0, 0, 0, 0, 0, 0, 0, 0, 0, (⟨#[]⟩ : ByteArray), false)) else (if 0 < (a0.size : Int) then (if 1 ≤ (a0.size : Int) then ((wapentakeref01_ReadV.f k (a0.extract 1 a0.size)).bind fun bt307 => (if bt307.2.2 = true then (if 0 ≤ (wrap64 (1 + bt307.2.1)) then (if (wrap64 (1 + bt307.2.1)) ≤ (a0.size : Int) then ((wapentakeref01_ReadV.f k (a0.extract ((wrap64 (1 + bt307.2.1)) : Int).toNat a0.size)).bind fun bt310 => (if bt310.2.2 = true then (if (bt a0 0) = 3 then (if (wrap64 ((wrap64 ((wrap64 (1 + bt307.2.1)) + bt310.2.1)) + 9)) > (a0.size : Int) then (some (0, 0, 0, 0, 0, 0, 0, 0, 0, 0, 0, 0, (⟨#[]⟩ : ByteArray), false)) else (if 0 ≤ (wrap64 ((wrap64 (1 + bt307.2.1)) + bt310.2.1)) then (if (wrap64 ((wrap64 (1 + bt307.2.1)) + bt310.2.1)) < (a0.size : Int) then (wapentakeref04_Read.l0 k a0 (wrap64 ((wrap64 (1 + bt307.2.1)) + bt310.2.1)) 0 bt307.1 bt310.1 (bt a0 0) (bt a0 (wrap64 ((wrap64 (1 + bt307.2.1)) + bt310.2.1))) 0 0 0 0 0 0 0 0 (⟨#[]⟩ : ByteArray)) else (none)) else (none))) else (wapentakeref04_Read.j1 k a0 (wrap64 ((wrap64 (1 + bt307.2.1)) + bt310.2.1)) bt307.1 bt310.1 (bt a0 0) 0 0 0 0 0 0 0 0 0 (⟨#[]⟩ : ByteArray))) else (some (0, 0, 0, 0, 0, 0, 0, 0, 0, 0, 0, 0, (⟨#[]⟩ : ByteArray), false)))) else (none)) else (none)) else (some (0, 0, 0, 0, 0, 0, 0, 0, 0, 0, 0, 0, (⟨#[]⟩ : ByteArray), false)))) else (none)) else (none))) = some (r1, r2, r3, r4, r5, r6, r7, r8, r9, r10, r11, r12, r13, r14) := h
 clear h
 by_cases c2 : (a0.size : Int) < 3
 ·rw [if_pos c2] at H
  have c2b0 : decide ((a0.size : Int) < 3) = true := decide_eq_true c2
  have c2b1 : decide (a0.size < 3) = true := decide_eq_true (by omega)
  clear c2
  simp only [Option.some.injEq, Prod.mk.injEq] at H
  obtain ⟨rfl, rfl, rfl, rfl, rfl, rfl, rfl, rfl, rfl, rfl, rfl, rfl, rfl, rfl⟩ := H
  go_enter Try.func17, Try.ntmps17
  go_wp2_with (first | ((with_reducible refine gate_dst (N := 2) rfl ?_); refine box_event ?hg (N := 2) ?hd (cs := #[.int .u64 0, .int .u64 0, .int .u8 0, .int .u8 0, .int .u8 0, .int .u8 0, .int .u8 0, .int .u8 0, .int .u8 0, .int .u8 0, .int .u8 0, .int .u8 0, .string (⟨#[]⟩ : ByteArray)]) (t := 27) ?hr ?_; (case hd => rfl); (case hg => rfl); (case hr => first | (go_simp; done) | (go_simp; rfl)); intro gb305 hg w3 hbox hb; have n0_ := Aside0.mk (below_step (by repeat (first | (with_reducible first | exact HB.out | apply below_alloc | apply pw_below_drewN | apply below_drew1) | exact HB.out)) hb); have n1_ := Aside0.mk (hbox); have n2_ := Aside0.mk ((by rw [hg]; exact (below_size (by repeat (first | (with_reducible first | exact HB.out | apply below_alloc | apply pw_below_drewN | apply below_drew1) | exact HB.out))) : w.heap.size ≤ gb305)); have n3_ := Aside0.mk ((by rw [hg]; exact (below_size (by repeat (first | (with_reducible first | exact HB.out | apply below_alloc | apply pw_below_drewN | apply below_drew1) | exact HB.out))) : w.heap.size ≤ gb305)); clear HB; have HB := n0_; have BK305 := n1_; have GW305 := n2_; have GE305 := n3_; clear n0_ n1_ n2_ n3_; clear hb hbox hg; have hcz4_0 : w3.cell? ⟨gb305, 0, none⟩ = some (.int .u64 0) := (blk_cell BK305.out 0).trans rfl; have hcz4_1 : w3.cell? ⟨gb305, 1, none⟩ = some (.int .u64 0) := (blk_cell BK305.out 1).trans rfl; have hcz4_2 : w3.cell? ⟨gb305, 2, none⟩ = some (.int .u8 0) := (blk_cell BK305.out 2).trans rfl; have hcz4_3 : w3.cell? ⟨gb305, 3, none⟩ = some (.int .u8 0) := (blk_cell BK305.out 3).trans rfl; have hcz4_4 : w3.cell? ⟨gb305, 4, none⟩ = some (.int .u8 0) := (blk_cell BK305.out 4).trans rfl; have hcz4_5 : w3.cell? ⟨gb305, 5, none⟩ = some (.int .u8 0) := (blk_cell BK305.out 5).trans rfl; have hcz4_6 : w3.cell? ⟨gb305, 6, none⟩ = some (.int .u8 0) := (blk_cell BK305.out 6).trans rfl; have hcz4_7 : w3.cell? ⟨gb305, 7, none⟩ = some (.int .u8 0) := (blk_cell BK305.out 7).trans rfl; have hcz4_8 : w3.cell? ⟨gb305, 8, none⟩ = some (.int .u8 0) := (blk_cell BK305.out 8).trans rfl; have hcz4_9 : w3.cell? ⟨gb305, 9, none⟩ = some (.int .u8 0) := (blk_cell BK305.out 9).trans rfl; have hcz4_10 : w3.cell? ⟨gb305, 10, none⟩ = some (.int .u8 0) := (blk_cell BK305.out 10).trans rfl; have hcz4_11 : w3.cell? ⟨gb305, 11, none⟩ = some (.int .u8 0) := (blk_cell BK305.out 11).trans rfl; have hcz4_12 : w3.cell? ⟨gb305, 12, none⟩ = some (.string (⟨#[]⟩ : ByteArray)) := (blk_cell BK305.out 12).trans rfl; have hfz4_0 := blk_frozen BK305.out 0; have hfz4_1 := blk_frozen BK305.out 1; have hfz4_2 := blk_frozen BK305.out 2; have hfz4_3 := blk_frozen BK305.out 3; have hfz4_4 := blk_frozen BK305.out 4; have hfz4_5 := blk_frozen BK305.out 5; have hfz4_6 := blk_frozen BK305.out 6; have hfz4_7 := blk_frozen BK305.out 7; have hfz4_8 := blk_frozen BK305.out 8; have hfz4_9 := blk_frozen BK305.out 9; have hfz4_10 := blk_frozen BK305.out 10; have hfz4_11 := blk_frozen BK305.out 11; have hfz4_12 := blk_frozen BK305.out 12))
  refine bodyPost_ret (results_ct rfl _ _ gb305 27 #[.int .u64 0, .int .u64 0, .int .u8 0, .int .u8 0, .int .u8 0, .int .u8 0, .int .u8 0, .int .u8 0, .int .u8 0, .int .u8 0, .int .u8 0, .int .u8 0, .string (⟨#[]⟩ : ByteArray)] (0, 0) _ rfl (by (with_reducible repeat (first | refine blk_drewN ?_ _ | refine blk_drew ?_ | refine blk_alloc ?_ _)); refine blk_put (cs := #[.int .u64 0, .int .u64 0, .int .u8 0, .int .u8 0, .int .u8 0, .int .u8 0, .int .u8 0, .int .u8 0, .int .u8 0, .int .u8 0, .int .u8 0, .int .u8 0, .string (⟨#[]⟩ : ByteArray)]) ?_ 12 _ rfl; (with_reducible repeat (first | refine blk_drewN ?_ _ | refine blk_drew ?_ | refine blk_alloc ?_ _)); refine blk_put (cs := #[.int .u64 0, .int .u64 0, .int .u8 0, .int .u8 0, .int .u8 0, .int .u8 0, .int .u8 0, .int .u8 0, .int .u8 0, .int .u8 0, .int .u8 0, .int .u8 0, .string (⟨#[]⟩ : ByteArray)]) ?_ 11 _ rfl; (with_reducible repeat (first | refine blk_drewN ?_ _ | refine blk_drew ?_ | refine blk_alloc ?_ _)); refine blk_put (cs := #[.int .u64 0, .int .u64 0, .int .u8 0, .int .u8 0, .int .u8 0, .int .u8 0, .int .u8 0, .int .u8 0, .int .u8 0, .int .u8 0, .int .u8 0, .int .u8 0, .string (⟨#[]⟩ : ByteArray)]) ?_ 10 _ rfl; (with_reducible repeat (first | refine blk_drewN ?_ _ | refine blk_drew ?_ | refine blk_alloc ?_ _)); refine blk_put (cs := #[.int .u64 0, .int .u64 0, .int .u8 0, .int .u8 0, .int .u8 0, .int .u8 0, .int .u8 0, .int .u8 0, .int .u8 0, .int .u8 0, .int .u8 0, .int .u8 0, .string (⟨#[]⟩ : ByteArray)]) ?_ 9 _ rfl; (with_reducible repeat (first | refine blk_drewN ?_ _ | refine blk_drew ?_ | refine blk_alloc ?_ _)); refine blk_put (cs := #[.int .u64 0, .int .u64 0, .int .u8 0, .int .u8 0, .int .u8 0, .int .u8 0, .int .u8 0, .int .u8 0, .int .u8 0, .int .u8 0, .int .u8 0, .int .u8 0, .string (⟨#[]⟩ : ByteArray)]) ?_ 8 _ rfl; (with_reducible repeat (first | refine blk_drewN ?_ _ | refine blk_drew ?_ | refine blk_alloc ?_ _)); refine blk_put (cs := #[.int .u64 0, .int .u64 0, .int .u8 0, .int .u8 0, .int .u8 0, .int .u8 0, .int .u8 0, .int .u8 0, .int .u8 0, .int .u8 0, .int .u8 0, .int .u8 0, .string (⟨#[]⟩ : ByteArray)]) ?_ 7 _ rfl; (with_reducible repeat (first | refine blk_drewN ?_ _ | refine blk_drew ?_ | refine blk_alloc ?_ _)); refine blk_put (cs := #[.int .u64 0, .int .u64 0, .int .u8 0, .int .u8 0, .int .u8 0, .int .u8 0, .int .u8 0, .int .u8 0, .int .u8 0, .int .u8 0, .int .u8 0, .int .u8 0, .string (⟨#[]⟩ : ByteArray)]) ?_ 6 _ rfl; (with_reducible repeat (first | refine blk_drewN ?_ _ | refine blk_drew ?_ | refine blk_alloc ?_ _)); refine blk_put (cs := #[.int .u64 0, .int .u64 0, .int .u8 0, .int .u8 0, .int .u8 0, .int .u8 0, .int .u8 0, .int .u8 0, .int .u8 0, .int .u8 0, .int .u8 0, .int .u8 0, .string (⟨#[]⟩ : ByteArray)]) ?_ 5 _ rfl; (with_reducible repeat (first | refine blk_drewN ?_ _ | refine blk_drew ?_ | refine blk_alloc ?_ _)); refine blk_put (cs := #[.int .u64 0, .int .u64 0, .int .u8 0, .int .u8 0, .int .u8 0, .int .u8 0, .int .u8 0, .int .u8 0, .int .u8 0, .int .u8 0, .int .u8 0, .int .u8 0, .string (⟨#[]⟩ : ByteArray)]) ?_ 4 _ rfl; (with_reducible repeat (first | refine blk_drewN ?_ _ | refine blk_drew ?_ | refine blk_alloc ?_ _)); refine blk_put (cs := #[.int .u64 0, .int .u64 0, .int .u8 0, .int .u8 0, .int .u8 0, .int .u8 0, .int .u8 0, .int .u8 0, .int .u8 0, .int .u8 0, .int .u8 0, .int .u8 0, .string (⟨#[]⟩ : ByteArray)]) ?_ 3 _ rfl; (with_reducible repeat (first | refine blk_drewN ?_ _ | refine blk_drew ?_ | refine blk_alloc ?_ _)); refine blk_put (cs := #[.int .u64 0, .int .u64 0, .int .u8 0, .int .u8 0, .int .u8 0, .int .u8 0, .int .u8 0, .int .u8 0, .int .u8 0, .int .u8 0, .int .u8 0, .int .u8 0, .string (⟨#[]⟩ : ByteArray)]) ?_ 2 _ rfl; (with_reducible repeat (first | refine blk_drewN ?_ _ | refine blk_drew ?_ | refine blk_alloc ?_ _)); refine blk_put (cs := #[.int .u64 0, .int .u64 0, .int .u8 0, .int .u8 0, .int .u8 0, .int .u8 0, .int .u8 0, .int .u8 0, .int .u8 0, .int .u8 0, .int .u8 0, .int .u8 0, .string (⟨#[]⟩ : ByteArray)]) ?_ 1 _ rfl; (with_reducible repeat (first | refine blk_drewN ?_ _ | refine blk_drew ?_ | refine blk_alloc ?_ _)); refine blk_put (cs := #[.int .u64 0, .int .u64 0, .int .u8 0, .int .u8 0, .int .u8 0, .int .u8 0, .int .u8 0, .int .u8 0, .int .u8 0, .int .u8 0, .int .u8 0, .int .u8 0, .string (⟨#[]⟩ : ByteArray)]) ?_ 0 _ rfl; (with_reducible repeat (first | refine blk_drewN ?_ _ | refine blk_drew ?_ | refine blk_alloc ?_ _)); exact BK305.out) Try.underlying27 rfl (by kernel_rfl)) rfl ?_
  exact ⟨by first | rfl | (simp [errW_none, errW_some] <;> rfl) | (simp [*, errW_none, errW_some] <;> rfl), by repeat (first | (with_reducible first | exact HB.out | apply below_alloc | apply pw_below_drewN | apply below_drew1 | refine below_set ?_ GE305.out) | exact HB.out)⟩
 ·rw [if_neg c2] at H
  have c2b0 : decide ((a0.size : Int) < 3) = false := decide_eq_false c2
  have c2b1 : decide (a0.size < 3) = false := decide_eq_false (by omega)
  clear c2
  by_cases c5 : 0 < (a0.size : Int)
  ·rw [if_pos c5] at H
   have c5b0 : decide (0 < (a0.size : Int)) = true := decide_eq_true c5
   have c5b1 : decide (0 < a0.size) = true := decide_eq_true (by omega)
   clear c5
   by_cases c7 : 1 ≤ (a0.size : Int)
   ·rw [if_pos c7] at H
    have c7b0 := eq_true c7
    have c7b1 : decide (1 ≤ (a0.size : Int)) = true := decide_eq_true c7
    clear c7
    replace H := Option.bind_eq_some_iff.mp H
    obtain ⟨⟨t307, t308, t309⟩, A80, H⟩ := H
    replace H : (if t309 = true then (if 0 ≤ (wrap64 (1 + t308)) then (if (wrap64 (1 + t308)) ≤ (a0.size : Int) then ((wapentakeref01_ReadV.f k (a0.extract ((wrap64 (1 + t308)) : Int).toNat a0.size)).bind fun bt310 => (if bt310.2.2 = true then (if (bt a0 0) = 3 then (if (wrap64 ((wrap64 ((wrap64 (1 + t308)) + bt310.2.1)) + 9)) > (a0.size : Int) then (some (0, 0, 0, 0, 0, 0, 0, 0, 0, 0, 0, 0, (⟨#[]⟩ : ByteArray), false)) else (if 0 ≤ (wrap64 ((wrap64 (1 + t308)) + bt310.2.1)) then (if (wrap64 ((wrap64 (1 + t308)) + bt310.2.1)) < (a0.size : Int) then (wapentakeref04_Read.l0 k a0 (wrap64 ((wrap64 (1 + t308)) + bt310.2.1)) 0 t307 bt310.1 (bt a0 0) (bt a0 (wrap64 ((wrap64 (1 + t308)) + bt310.2.1))) 0 0 0 0 0 0 0 0 (⟨#[]⟩ : ByteArray)) else (none)) else (none))) else (wapentakeref04_Read.j1 k a0 (wrap64 ((wrap64 (1 + t308)) + bt310.2.1)) t307 bt310.1 (bt a0 0) 0 0 0 0 0 0 0 0 0 (⟨#[]⟩ : ByteArray))) else (some (0, 0, 0, 0, 0, 0, 0, 0, 0, 0, 0, 0, (⟨#[]⟩ : ByteArray), false)))) else (none)) else (none)) else (some (0, 0, 0, 0, 0, 0, 0, 0, 0, 0, 0, 0, (⟨#[]⟩ : ByteArray), false))) = some (r1, r2, r3, r4, r5, r6, r7, r8, r9, r10, r11, r12, r13, r14) := H
    have A8 := Aside0.mk A80
    clear A80
    by_cases c9 : t309 = true
    ·subst c9
     have H1 : (if 0 ≤ (wrap64 (1 + t308)) then (if (wrap64 (1 + t308)) ≤ (a0.size : Int) then ((wapentakeref01_ReadV.f k (a0.extract ((wrap64 (1 + t308)) : Int).toNat a0.size)).bind fun bt310 => (if bt310.2.2 = true then (if (bt a0 0) = 3 then (if (wrap64 ((wrap64 ((wrap64 (1 + t308)) + bt310.2.1)) + 9)) > (a0.size : Int) then (some (0, 0, 0, 0, 0, 0, 0, 0, 0, 0, 0, 0, (⟨#[]⟩ : ByteArray), false)) else (if 0 ≤ (wrap64 ((wrap64 (1 + t308)) + bt310.2.1)) then (if (wrap64 ((wrap64 (1 + t308)) + bt310.2.1)) < (a0.size : Int) then (wapentakeref04_Read.l0 k a0 (wrap64 ((wrap64 (1 + t308)) + bt310.2.1)) 0 t307 bt310.1 (bt a0 0) (bt a0 (wrap64 ((wrap64 (1 + t308)) + bt310.2.1))) 0 0 0 0 0 0 0 0 (⟨#[]⟩ : ByteArray)) else (none)) else (none))) else (wapentakeref04_Read.j1 k a0 (wrap64 ((wrap64 (1 + t308)) + bt310.2.1)) t307 bt310.1 (bt a0 0) 0 0 0 0 0 0 0 0 0 (⟨#[]⟩ : ByteArray))) else (some (0, 0, 0, 0, 0, 0, 0, 0, 0, 0, 0, 0, (⟨#[]⟩ : ByteArray), false)))) else (none)) else (none)) = some (r1, r2, r3, r4, r5, r6, r7, r8, r9, r10, r11, r12, r13, r14) := by rw [if_pos rfl] at H; exact H
     clear H
     have H := H1
     clear H1
     obtain ⟨ji10, hji10⟩ : ∃ j_ : Int, (wrap64 (1 + t308)) = j_ := ⟨_, rfl⟩
     replace H : (if 0 ≤ (ji10) then (if (ji10) ≤ (a0.size : Int) then ((wapentakeref01_ReadV.f k (a0.extract ((ji10) : Int).toNat a0.size)).bind fun bt310 => (if bt310.2.2 = true then (if (bt a0 0) = 3 then (if (wrap64 ((wrap64 ((ji10) + bt310.2.1)) + 9)) > (a0.size : Int) then (some (0, 0, 0, 0, 0, 0, 0, 0, 0, 0, 0, 0, (⟨#[]⟩ : ByteArray), false)) else (if 0 ≤ (wrap64 ((ji10) + bt310.2.1)) then (if (wrap64 ((ji10) + bt310.2.1)) < (a0.size : Int) then (wapentakeref04_Read.l0 k a0 (wrap64 ((ji10) + bt310.2.1)) 0 t307 bt310.1 (bt a0 0) (bt a0 (wrap64 ((ji10) + bt310.2.1))) 0 0 0 0 0 0 0 0 (⟨#[]⟩ : ByteArray)) else (none)) else (none))) else (wapentakeref04_Read.j1 k a0 (wrap64 ((ji10) + bt310.2.1)) t307 bt310.1 (bt a0 0) 0 0 0 0 0 0 0 0 0 (⟨#[]⟩ : ByteArray))) else (some (0, 0, 0, 0, 0, 0, 0, 0, 0, 0, 0, 0, (⟨#[]⟩ : ByteArray), false)))) else (none)) else (none)) = some (r1, r2, r3, r4, r5, r6, r7, r8, r9, r10, r11, r12, r13, r14) := by first | (rw [hji10] at H; exact H) | (simp only [hji10] at H ⊢; exact H)
     (try rw [hji10] at A8)
     have hji10w : (IntKind.i64.wrap (1 + t308)) = ji10 := (i64_w _).trans hji10
     by_cases c11 : 0 ≤ (ji10)
     ·rw [if_pos c11] at H
      have c11b0 := eq_true c11
      have c11b1 : decide (0 ≤ (ji10)) = true := decide_eq_true c11
      clear c11
      by_cases c12 : (ji10) ≤ (a0.size : Int)
      ·rw [if_pos c12] at H
       have c12b0 := eq_true c12
       have c12b1 : decide ((ji10) ≤ (a0.size : Int)) = true := decide_eq_true c12
       clear c12
       replace H := Option.bind_eq_some_iff.mp H
       obtain ⟨⟨t310, t311, t312⟩, A130, H⟩ := H
       replace H : (if t312 = true then (if (bt a0 0) = 3 then (if (wrap64 ((wrap64 ((ji10) + t311)) + 9)) > (a0.size : Int) then (some (0, 0, 0, 0, 0, 0, 0, 0, 0, 0, 0, 0, (⟨#[]⟩ : ByteArray), false)) else (if 0 ≤ (wrap64 ((ji10) + t311)) then (if (wrap64 ((ji10) + t311)) < (a0.size : Int) then (wapentakeref04_Read.l0 k a0 (wrap64 ((ji10) + t311)) 0 t307 t310 (bt a0 0) (bt a0 (wrap64 ((ji10) + t311))) 0 0 0 0 0 0 0 0 (⟨#[]⟩ : ByteArray)) else (none)) else (none))) else (wapentakeref04_Read.j1 k a0 (wrap64 ((ji10) + t311)) t307 t310 (bt a0 0) 0 0 0 0 0 0 0 0 0 (⟨#[]⟩ : ByteArray))) else (some (0, 0, 0, 0, 0, 0, 0, 0, 0, 0, 0, 0, (⟨#[]⟩ : ByteArray), false))) = some (r1, r2, r3, r4, r5, r6, r7, r8, r9, r10, r11, r12, r13, r14) := H
       have A13 := Aside0.mk A130
       clear A130
       by_cases c14 : t312 = true
       ·subst c14
        have H1 : (if (bt a0 0) = 3 then (if (wrap64 ((wrap64 ((ji10) + t311)) + 9)) > (a0.size : Int) then (some (0, 0, 0, 0, 0, 0, 0, 0, 0, 0, 0, 0, (⟨#[]⟩ : ByteArray), false)) else (if 0 ≤ (wrap64 ((ji10) + t311)) then (if (wrap64 ((ji10) + t311)) < (a0.size : Int) then (wapentakeref04_Read.l0 k a0 (wrap64 ((ji10) + t311)) 0 t307 t310 (bt a0 0) (bt a0 (wrap64 ((ji10) + t311))) 0 0 0 0 0 0 0 0 (⟨#[]⟩ : ByteArray)) else (none)) else (none))) else (wapentakeref04_Read.j1 k a0 (wrap64 ((ji10) + t311)) t307 t310 (bt a0 0) 0 0 0 0 0 0 0 0 0 (⟨#[]⟩ : ByteArray))) = some (r1, r2, r3, r4, r5, r6, r7, r8, r9, r10, r11, r12, r13, r14) := by rw [if_pos rfl] at H; exact H
        clear H
        have H := H1
        clear H1
        have HC15 := Aside0.mk H
        clear H
        go_enter Try.func17, Try.ntmps17
        go_upto_if 54 with (first | ((with_reducible refine gate_dst (N := 2) rfl ?_); refine box_event ?hg (N := 2) ?hd (cs := #[.int .u64 0, .int .u64 0, .int .u8 0, .int .u8 0, .int .u8 0, .int .u8 0, .int .u8 0, .int .u8 0, .int .u8 0, .int .u8 0, .int .u8 0, .int .u8 0, .string (⟨#[]⟩ : ByteArray)]) (t := 27) ?hr ?_; (case hd => rfl); (case hg => rfl); (case hr => first | (go_simp; done) | (go_simp; rfl)); intro gb305 hg w16 hbox hb; have n0_ := Aside0.mk (below_step (by repeat (first | (with_reducible first | exact HB.out | apply below_alloc | apply pw_below_drewN | apply below_drew1) | exact HB.out)) hb); have n1_ := Aside0.mk (hbox); have n2_ := Aside0.mk ((by rw [hg]; exact (below_size (by repeat (first | (with_reducible first | exact HB.out | apply below_alloc | apply pw_below_drewN | apply below_drew1) | exact HB.out))) : w.heap.size ≤ gb305)); have n3_ := Aside0.mk ((by rw [hg]; exact (below_size (by repeat (first | (with_reducible first | exact HB.out | apply below_alloc | apply pw_below_drewN | apply below_drew1) | exact HB.out))) : w.heap.size ≤ gb305)); clear HB; have HB := n0_; have BK305 := n1_; have GW305 := n2_; have GE305 := n3_; clear n0_ n1_ n2_ n3_; clear hb hbox hg; have p6 : 0 ≤ (0 : Int) := (by omega); have q6 : 0 < a0.size := (by have : (0 : Int) < (a0.size : Int) := of_decide_eq_true (by first | (with_reducible assumption) | assumption); omega); have hx6 : ∀ h : 0 < a0.size, ((a0[0]'h).toNat : Int) = bt a0 0 := bt_at a0 0; clear p6; have qi6 : (0 < (a0.size : Int)) = True := eq_true (of_decide_eq_true (by first | (with_reducible assumption) | assumption)); replace q6 := eq_true q6) | ((with_reducible refine gate_dst (N := 4) rfl ?_); refine box_event ?hg (N := 4) ?hd (cs := #[.int .u64 0, .int .u64 0, .int .u8 0, .int .u8 0, .int .u8 0, .int .u8 0, .int .u8 0, .int .u8 0, .int .u8 0, .int .u8 0, .int .u8 0, .int .u8 0, .string (⟨#[]⟩ : ByteArray)]) (t := 27) ?hr ?_; (case hd => rfl); (case hg => rfl); (case hr => first | (go_simp; done) | (go_simp; rfl)); intro gb306 hg w17 hbox hb; have n0_ := Aside0.mk (blk_below (g := gb305) (o := .cells #[.int .u64 0, .int .u64 0, .int .u8 0, .int .u8 0, .int .u8 0, .int .u8 0, .int .u8 0, .int .u8 0, .int .u8 0, .int .u8 0, .int .u8 0, .int .u8 0, .string (⟨#[]⟩ : ByteArray)] 27 (0, 0)) (by (with_reducible repeat (first | refine blk_drewN ?_ _ | refine blk_drew ?_ | refine blk_alloc ?_ _)); exact BK305.out) hb); have n1_ := Aside0.mk (below_step (by repeat (first | (with_reducible first | exact HB.out | apply below_alloc | apply pw_below_drewN | apply below_drew1 | refine below_set ?_ GE305.out) | exact HB.out)) hb); have n2_ := Aside0.mk (hbox); have n3_ := Aside0.mk ((by rw [hg]; exact (below_size (by repeat (first | (with_reducible first | exact HB.out | apply below_alloc | apply pw_below_drewN | apply below_drew1 | refine below_set ?_ GE305.out) | exact HB.out))) : w.heap.size ≤ gb306)); have n4_ := Aside0.mk ((by rw [hg]; exact (below_size (by repeat (first | (with_reducible first | exact HB.out | apply below_alloc | apply pw_below_drewN | apply below_drew1 | refine below_set ?_ GE305.out) | exact HB.out))) : w.heap.size ≤ gb306)); have n5_ := Aside0.mk ((by rw [hg]; exact Nat.ne_of_lt (blk_lt (g := gb305) (o := .cells #[.int .u64 0, .int .u64 0, .int .u8 0, .int .u8 0, .int .u8 0, .int .u8 0, .int .u8 0, .int .u8 0, .int .u8 0, .int .u8 0, .int .u8 0, .int .u8 0, .string (⟨#[]⟩ : ByteArray)] 27 (0, 0)) (by (with_reducible repeat (first | refine blk_drewN ?_ _ | refine blk_drew ?_ | refine blk_alloc ?_ _)); exact BK305.out)) : gb305 ≠ gb306)); have n6_ := Aside0.mk ((by rw [hg]; exact Nat.ne_of_gt (blk_lt (g := gb305) (o := .cells #[.int .u64 0, .int .u64 0, .int .u8 0, .int .u8 0, .int .u8 0, .int .u8 0, .int .u8 0, .int .u8 0, .int .u8 0, .int .u8 0, .int .u8 0, .int .u8 0, .string (⟨#[]⟩ : ByteArray)] 27 (0, 0)) (by (with_reducible repeat (first | refine blk_drewN ?_ _ | refine blk_drew ?_ | refine blk_alloc ?_ _)); exact BK305.out)) : gb306 ≠ gb305)); clear BK305; clear HB; have BK305 := n0_; have HB := n1_; have BK306 := n2_; have GW306 := n3_; have GE306 := n4_; have NB305_306 := n5_; have NB306_305 := n6_; clear n0_ n1_ n2_ n3_ n4_ n5_ n6_; clear hb hbox hg; have hnb18 := NB306_305.out; have hnc18 := NB305_306.out; have hcz19_0 : w17.cell? ⟨gb306, 0, none⟩ = some (.int .u64 0) := (blk_cell BK306.out 0).trans rfl; have hcz19_1 : w17.cell? ⟨gb306, 1, none⟩ = some (.int .u64 0) := (blk_cell BK306.out 1).trans rfl; have hcz19_2 : w17.cell? ⟨gb306, 2, none⟩ = some (.int .u8 0) := (blk_cell BK306.out 2).trans rfl; have hcz19_3 : w17.cell? ⟨gb306, 3, none⟩ = some (.int .u8 0) := (blk_cell BK306.out 3).trans rfl; have hcz19_4 : w17.cell? ⟨gb306, 4, none⟩ = some (.int .u8 0) := (blk_cell BK306.out 4).trans rfl; have hcz19_5 : w17.cell? ⟨gb306, 5, none⟩ = some (.int .u8 0) := (blk_cell BK306.out 5).trans rfl; have hcz19_6 : w17.cell? ⟨gb306, 6, none⟩ = some (.int .u8 0) := (blk_cell BK306.out 6).trans rfl; have hcz19_7 : w17.cell? ⟨gb306, 7, none⟩ = some (.int .u8 0) := (blk_cell BK306.out 7).trans rfl; have hcz19_8 : w17.cell? ⟨gb306, 8, none⟩ = some (.int .u8 0) := (blk_cell BK306.out 8).trans rfl; have hcz19_9 : w17.cell? ⟨gb306, 9, none⟩ = some (.int .u8 0) := (blk_cell BK306.out 9).trans rfl; have hcz19_10 : w17.cell? ⟨gb306, 10, none⟩ = some (.int .u8 0) := (blk_cell BK306.out 10).trans rfl; have hcz19_11 : w17.cell? ⟨gb306, 11, none⟩ = some (.int .u8 0) := (blk_cell BK306.out 11).trans rfl; have hcz19_12 : w17.cell? ⟨gb306, 12, none⟩ = some (.string (⟨#[]⟩ : ByteArray)) := (blk_cell BK306.out 12).trans rfl; have hfz19_0 := blk_frozen BK306.out 0; have hfz19_1 := blk_frozen BK306.out 1; have hfz19_2 := blk_frozen BK306.out 2; have hfz19_3 := blk_frozen BK306.out 3; have hfz19_4 := blk_frozen BK306.out 4; have hfz19_5 := blk_frozen BK306.out 5; have hfz19_6 := blk_frozen BK306.out 6; have hfz19_7 := blk_frozen BK306.out 7; have hfz19_8 := blk_frozen BK306.out 8; have hfz19_9 := blk_frozen BK306.out 9; have hfz19_10 := blk_frozen BK306.out 10; have hfz19_11 := blk_frozen BK306.out 11; have hfz19_12 := blk_frozen BK306.out 12) | ((with_reducible refine gate_callee (f := 29) rfl ?_); refine goesL_ (some 25) rfl rfl Try.func29 (by kernel_rfl) rfl #[.string (a0.extract 1 a0.size)] rfl (by (try simp only [List.map_toArray, List.map_cons, List.map_nil]); first | done | rfl | (simp only [List.length_drop, List.length_take]; rfl)) ?_; (with_reducible refine (wapentakeref01_ReadV.calls k (a0.extract 1 a0.size) t307 t308 true _ A8.out).mono ?_); rintro e w20 ⟨rfl, hb⟩; refine ⟨_, rfl, ?_⟩; have n0_ := Aside0.mk (blk_below (g := gb305) (o := .cells #[.int .u64 0, .int .u64 0, .int .u8 0, .int .u8 0, .int .u8 0, .int .u8 0, .int .u8 0, .int .u8 0, .int .u8 0, .int .u8 0, .int .u8 0, .int .u8 0, .string (⟨#[]⟩ : ByteArray)] 27 (0, 0)) (by (with_reducible repeat (first | refine blk_drewN ?_ _ | refine blk_drew ?_ | refine blk_alloc ?_ _)); refine blk_far ?_ NB305_306.out _; (with_reducible repeat (first | refine blk_drewN ?_ _ | refine blk_drew ?_ | refine blk_alloc ?_ _)); refine blk_far ?_ NB305_306.out _; (with_reducible repeat (first | refine blk_drewN ?_ _ | refine blk_drew ?_ | refine blk_alloc ?_ _)); refine blk_far ?_ NB305_306.out _; (with_reducible repeat (first | refine blk_drewN ?_ _ | refine blk_drew ?_ | refine blk_alloc ?_ _)); refine blk_far ?_ NB305_306.out _; (with_reducible repeat (first | refine blk_drewN ?_ _ | refine blk_drew ?_ | refine blk_alloc ?_ _)); refine blk_far ?_ NB305_306.out _; (with_reducible repeat (first | refine blk_drewN ?_ _ | refine blk_drew ?_ | refine blk_alloc ?_ _)); refine blk_far ?_ NB305_306.out _; (with_reducible repeat (first | refine blk_drewN ?_ _ | refine blk_drew ?_ | refine blk_alloc ?_ _)); refine blk_far ?_ NB305_306.out _; (with_reducible repeat (first | refine blk_drewN ?_ _ | refine blk_drew ?_ | refine blk_alloc ?_ _)); refine blk_far ?_ NB305_306.out _; (with_reducible repeat (first | refine blk_drewN ?_ _ | refine blk_drew ?_ | refine blk_alloc ?_ _)); refine blk_far ?_ NB305_306.out _; (with_reducible repeat (first | refine blk_drewN ?_ _ | refine blk_drew ?_ | refine blk_alloc ?_ _)); refine blk_far ?_ NB305_306.out _; (with_reducible repeat (first | refine blk_drewN ?_ _ | refine blk_drew ?_ | refine blk_alloc ?_ _)); refine blk_far ?_ NB305_306.out _; (with_reducible repeat (first | refine blk_drewN ?_ _ | refine blk_drew ?_ | refine blk_alloc ?_ _)); refine blk_far ?_ NB305_306.out _; (with_reducible repeat (first | refine blk_drewN ?_ _ | refine blk_drew ?_ | refine blk_alloc ?_ _)); refine blk_far ?_ NB305_306.out _; (with_reducible repeat (first | refine blk_drewN ?_ _ | refine blk_drew ?_ | refine blk_alloc ?_ _)); exact BK305.out) hb); have n1_ := Aside0.mk (blk_below (g := gb306) (o := .cells #[.int .u64 0, .int .u64 0, .int .u8 (bt a0 0), .int .u8 0, .int .u8 0, .int .u8 0, .int .u8 0, .int .u8 0, .int .u8 0, .int .u8 0, .int .u8 0, .int .u8 0, .string (⟨#[]⟩ : ByteArray)] 27 (0, 0)) (by (with_reducible repeat (first | refine blk_drewN ?_ _ | refine blk_drew ?_ | refine blk_alloc ?_ _)); refine blk_put (cs := #[.int .u64 0, .int .u64 0, .int .u8 (bt a0 0), .int .u8 0, .int .u8 0, .int .u8 0, .int .u8 0, .int .u8 0, .int .u8 0, .int .u8 0, .int .u8 0, .int .u8 0, .string (⟨#[]⟩ : ByteArray)]) ?_ 12 _ rfl; (with_reducible repeat (first | refine blk_drewN ?_ _ | refine blk_drew ?_ | refine blk_alloc ?_ _)); refine blk_put (cs := #[.int .u64 0, .int .u64 0, .int .u8 (bt a0 0), .int .u8 0, .int .u8 0, .int .u8 0, .int .u8 0, .int .u8 0, .int .u8 0, .int .u8 0, .int .u8 0, .int .u8 0, .string (⟨#[]⟩ : ByteArray)]) ?_ 11 _ rfl; (with_reducible repeat (first | refine blk_drewN ?_ _ | refine blk_drew ?_ | refine blk_alloc ?_ _)); refine blk_put (cs := #[.int .u64 0, .int .u64 0, .int .u8 (bt a0 0), .int .u8 0, .int .u8 0, .int .u8 0, .int .u8 0, .int .u8 0, .int .u8 0, .int .u8 0, .int .u8 0, .int .u8 0, .string (⟨#[]⟩ : ByteArray)]) ?_ 10 _ rfl; (with_reducible repeat (first | refine blk_drewN ?_ _ | refine blk_drew ?_ | refine blk_alloc ?_ _)); refine blk_put (cs := #[.int .u64 0, .int .u64 0, .int .u8 (bt a0 0), .int .u8 0, .int .u8 0, .int .u8 0, .int .u8 0, .int .u8 0, .int .u8 0, .int .u8 0, .int .u8 0, .int .u8 0, .string (⟨#[]⟩ : ByteArray)]) ?_ 9 _ rfl; (with_reducible repeat (first | refine blk_drewN ?_ _ | refine blk_drew ?_ | refine blk_alloc ?_ _)); refine blk_put (cs := #[.int .u64 0, .int .u64 0, .int .u8 (bt a0 0), .int .u8 0, .int .u8 0, .int .u8 0, .int .u8 0, .int .u8 0, .int .u8 0, .int .u8 0, .int .u8 0, .int .u8 0, .string (⟨#[]⟩ : ByteArray)]) ?_ 8 _ rfl; (with_reducible repeat (first | refine blk_drewN ?_ _ | refine blk_drew ?_ | refine blk_alloc ?_ _)); refine blk_put (cs := #[.int .u64 0, .int .u64 0, .int .u8 (bt a0 0), .int .u8 0, .int .u8 0, .int .u8 0, .int .u8 0, .int .u8 0, .int .u8 0, .int .u8 0, .int .u8 0, .int .u8 0, .string (⟨#[]⟩ : ByteArray)]) ?_ 7 _ rfl; (with_reducible repeat (first | refine blk_drewN ?_ _ | refine blk_drew ?_ | refine blk_alloc ?_ _)); refine blk_put (cs := #[.int .u64 0, .int .u64 0, .int .u8 (bt a0 0), .int .u8 0, .int .u8 0, .int .u8 0, .int .u8 0, .int .u8 0, .int .u8 0, .int .u8 0, .int .u8 0, .int .u8 0, .string (⟨#[]⟩ : ByteArray)]) ?_ 6 _ rfl; (with_reducible repeat (first | refine blk_drewN ?_ _ | refine blk_drew ?_ | refine blk_alloc ?_ _)); refine blk_put (cs := #[.int .u64 0, .int .u64 0, .int .u8 (bt a0 0), .int .u8 0, .int .u8 0, .int .u8 0, .int .u8 0, .int .u8 0, .int .u8 0, .int .u8 0, .int .u8 0, .int .u8 0, .string (⟨#[]⟩ : ByteArray)]) ?_ 5 _ rfl; (with_reducible repeat (first | refine blk_drewN ?_ _ | refine blk_drew ?_ | refine blk_alloc ?_ _)); refine blk_put (cs := #[.int .u64 0, .int .u64 0, .int .u8 (bt a0 0), .int .u8 0, .int .u8 0, .int .u8 0, .int .u8 0, .int .u8 0, .int .u8 0, .int .u8 0, .int .u8 0, .int .u8 0, .string (⟨#[]⟩ : ByteArray)]) ?_ 4 _ rfl; (with_reducible repeat (first | refine blk_drewN ?_ _ | refine blk_drew ?_ | refine blk_alloc ?_ _)); refine blk_put (cs := #[.int .u64 0, .int .u64 0, .int .u8 (bt a0 0), .int .u8 0, .int .u8 0, .int .u8 0, .int .u8 0, .int .u8 0, .int .u8 0, .int .u8 0, .int .u8 0, .int .u8 0, .string (⟨#[]⟩ : ByteArray)]) ?_ 3 _ rfl; (with_reducible repeat (first | refine blk_drewN ?_ _ | refine blk_drew ?_ | refine blk_alloc ?_ _)); refine blk_put (cs := #[.int .u64 0, .int .u64 0, .int .u8 0, .int .u8 0, .int .u8 0, .int .u8 0, .int .u8 0, .int .u8 0, .int .u8 0, .int .u8 0, .int .u8 0, .int .u8 0, .string (⟨#[]⟩ : ByteArray)]) ?_ 2 _ rfl; (with_reducible repeat (first | refine blk_drewN ?_ _ | refine blk_drew ?_ | refine blk_alloc ?_ _)); refine blk_put (cs := #[.int .u64 0, .int .u64 0, .int .u8 0, .int .u8 0, .int .u8 0, .int .u8 0, .int .u8 0, .int .u8 0, .int .u8 0, .int .u8 0, .int .u8 0, .int .u8 0, .string (⟨#[]⟩ : ByteArray)]) ?_ 1 _ rfl; (with_reducible repeat (first | refine blk_drewN ?_ _ | refine blk_drew ?_ | refine blk_alloc ?_ _)); refine blk_put (cs := #[.int .u64 0, .int .u64 0, .int .u8 0, .int .u8 0, .int .u8 0, .int .u8 0, .int .u8 0, .int .u8 0, .int .u8 0, .int .u8 0, .int .u8 0, .int .u8 0, .string (⟨#[]⟩ : ByteArray)]) ?_ 0 _ rfl; (with_reducible repeat (first | refine blk_drewN ?_ _ | refine blk_drew ?_ | refine blk_alloc ?_ _)); exact BK306.out) hb); have n2_ := Aside0.mk (below_step (by repeat (first | (with_reducible first | exact HB.out | apply below_alloc | apply pw_below_drewN | apply below_drew1 | refine below_set ?_ GE305.out | refine below_set ?_ GE306.out) | exact HB.out)) hb); clear BK305; clear BK306; clear HB; have BK305 := n0_; have BK306 := n1_; have HB := n2_; clear n0_ n1_ n2_; (try clear hb); (try clear hb2); (try clear hk); (try clear hi)) | ((with_reducible refine gate_callee (f := 29) rfl ?_); refine goesL_ (some 37) rfl rfl Try.func29 (by kernel_rfl) rfl #[.string (a0.extract ((ji10) : Int).toNat a0.size)] rfl (by (try simp only [List.map_toArray, List.map_cons, List.map_nil]); first | done | (simp only [hji10]; rfl) | rfl | (simp only [List.length_drop, List.length_take]; rfl)) ?_; (with_reducible refine (wapentakeref01_ReadV.calls k (a0.extract ((ji10) : Int).toNat a0.size) t310 t311 true _ A13.out).mono ?_); rintro e w21 ⟨rfl, hb⟩; refine ⟨_, rfl, ?_⟩; have n0_ := Aside0.mk (blk_below (g := gb305) (o := .cells #[.int .u64 0, .int .u64 0, .int .u8 0, .int .u8 0, .int .u8 0, .int .u8 0, .int .u8 0, .int .u8 0, .int .u8 0, .int .u8 0, .int .u8 0, .int .u8 0, .string (⟨#[]⟩ : ByteArray)] 27 (0, 0)) (by (with_reducible repeat (first | refine blk_drewN ?_ _ | refine blk_drew ?_ | refine blk_alloc ?_ _)); exact BK305.out) hb); have n1_ := Aside0.mk (blk_below (g := gb306) (o := .cells #[.int .u64 0, .int .u64 0, .int .u8 (bt a0 0), .int .u8 0, .int .u8 0, .int .u8 0, .int .u8 0, .int .u8 0, .int .u8 0, .int .u8 0, .int .u8 0, .int .u8 0, .string (⟨#[]⟩ : ByteArray)] 27 (0, 0)) (by (with_reducible repeat (first | refine blk_drewN ?_ _ | refine blk_drew ?_ | refine blk_alloc ?_ _)); exact BK306.out) hb); have n2_ := Aside0.mk (below_step (by repeat (first | (with_reducible first | exact HB.out | apply below_alloc | apply pw_below_drewN | apply below_drew1 | refine below_set ?_ GE305.out | refine below_set ?_ GE306.out) | exact HB.out)) hb); clear BK305; clear BK306; clear HB; have BK305 := n0_; have BK306 := n1_; have HB := n2_; clear n0_ n1_ n2_; (try clear hb); (try clear hb2); (try clear hk); (try clear hi); have hcz22_0 : w21.cell? ⟨gb306, 0, none⟩ = some (.int .u64 0) := (blk_cell BK306.out 0).trans rfl; have hcz22_1 : w21.cell? ⟨gb306, 1, none⟩ = some (.int .u64 0) := (blk_cell BK306.out 1).trans rfl; have hcz22_2 : w21.cell? ⟨gb306, 2, none⟩ = some (.int .u8 (bt a0 0)) := (blk_cell BK306.out 2).trans rfl; have hcz22_3 : w21.cell? ⟨gb306, 3, none⟩ = some (.int .u8 0) := (blk_cell BK306.out 3).trans rfl; have hcz22_4 : w21.cell? ⟨gb306, 4, none⟩ = some (.int .u8 0) := (blk_cell BK306.out 4).trans rfl; have hcz22_5 : w21.cell? ⟨gb306, 5, none⟩ = some (.int .u8 0) := (blk_cell BK306.out 5).trans rfl; have hcz22_6 : w21.cell? ⟨gb306, 6, none⟩ = some (.int .u8 0) := (blk_cell BK306.out 6).trans rfl; have hcz22_7 : w21.cell? ⟨gb306, 7, none⟩ = some (.int .u8 0) := (blk_cell BK306.out 7).trans rfl; have hcz22_8 : w21.cell? ⟨gb306, 8, none⟩ = some (.int .u8 0) := (blk_cell BK306.out 8).trans rfl; have hcz22_9 : w21.cell? ⟨gb306, 9, none⟩ = some (.int .u8 0) := (blk_cell BK306.out 9).trans rfl; have hcz22_10 : w21.cell? ⟨gb306, 10, none⟩ = some (.int .u8 0) := (blk_cell BK306.out 10).trans rfl; have hcz22_11 : w21.cell? ⟨gb306, 11, none⟩ = some (.int .u8 0) := (blk_cell BK306.out 11).trans rfl; have hcz22_12 : w21.cell? ⟨gb306, 12, none⟩ = some (.string (⟨#[]⟩ : ByteArray)) := (blk_cell BK306.out 12).trans rfl; have hfz22_0 := blk_frozen BK306.out 0; have hfz22_1 := blk_frozen BK306.out 1; have hfz22_2 := blk_frozen BK306.out 2; have hfz22_3 := blk_frozen BK306.out 3; have hfz22_4 := blk_frozen BK306.out 4; have hfz22_5 := blk_frozen BK306.out 5; have hfz22_6 := blk_frozen BK306.out 6; have hfz22_7 := blk_frozen BK306.out 7; have hfz22_8 := blk_frozen BK306.out 8; have hfz22_9 := blk_frozen BK306.out 9; have hfz22_10 := blk_frozen BK306.out 10; have hfz22_11 := blk_frozen BK306.out 11; have hfz22_12 := blk_frozen BK306.out 12))
        (try simp only [Act.put, zA18_, zB18_, zC18_])
        go_cut [10] (fun v10 wc => ∃ (kq : Nat) (x10_14 : Int) (x306000_14 : Int) (x306001_14 : Int) (x306002_14 : Int) (x306003_14 : Int) (x306004_14 : Int) (x306005_14 : Int) (x306006_14 : Int) (x306007_14 : Int) (x306008_14 : Int) (x306009_14 : Int) (x306010_14 : Int) (x306011_14 : Int) (x306012_14 : ByteArray) (x307003_14 : Int) (x307004_14 : Int) (x307005_14 : Int) (x307006_14 : Int) (x307007_14 : Int) (x307008_14 : Int) (x307009_14 : Int) (x307010_14 : Int) (x307011_14 : Int), v10 = .int .i64 x10_14 ∧ Aside0 (wapentakeref04_Read.j1 kq a0 x10_14 t307 t310 (bt a0 0) x307003_14 x307004_14 x307005_14 x307006_14 x307007_14 x307008_14 x307009_14 x307010_14 x307011_14 (⟨#[]⟩ : ByteArray) = some (r1, r2, r3, r4, r5, r6, r7, r8, r9, r10, r11, r12, r13, r14)) ∧ Aside0 (kq ≤ k) ∧ Aside0 (wc.heap[gb305]? = some (.cells #[.int .u64 x306000_14, .int .u64 x306001_14, .int .u8 x306002_14, .int .u8 x306003_14, .int .u8 x306004_14, .int .u8 x306005_14, .int .u8 x306006_14, .int .u8 x306007_14, .int .u8 x306008_14, .int .u8 x306009_14, .int .u8 x306010_14, .int .u8 x306011_14, .string x306012_14] 27 (0, 0))) ∧ Aside0 (wc.heap[gb306]? = some (.cells #[.int .u64 t307, .int .u64 t310, .int .u8 (bt a0 0), .int .u8 x307003_14, .int .u8 x307004_14, .int .u8 x307005_14, .int .u8 x307006_14, .int .u8 x307007_14, .int .u8 x307008_14, .int .u8 x307009_14, .int .u8 x307010_14, .int .u8 x307011_14, .string (⟨#[]⟩ : ByteArray)] 27 (0, 0))) ∧ Aside0 (Below w.heap.size w wc))
        case first =>
         have H := HC15.out
         clear HC15
         by_cases c23 : (bt a0 0) = 3
         ·rw [if_pos c23] at H
          have c23b0 : ((bt a0 0) == 3) = true := beq_iff_eq.mpr c23
          have c23b1 : ((bt a0 0) != 3) = false := bne_eq_false_iff_eq.mpr c23
          clear c23
          (first | rw [c23b0] | (simp only [i64_w, i32_w]; rw [c23b0]) | skip)
          by_cases c24 : (wrap64 ((wrap64 ((ji10) + t311)) + 9)) > (a0.size : Int)
          ·rw [if_pos c24] at H
           have c24b0 : decide ((a0.size : Int) < (wrap64 ((wrap64 ((ji10) + t311)) + 9))) = true := decide_eq_true c24
           clear c24
           simp only [Option.some.injEq, Prod.mk.injEq] at H
           obtain ⟨rfl, rfl, rfl, rfl, rfl, rfl, rfl, rfl, rfl, rfl, rfl, rfl, rfl, rfl⟩ := H
           have hnb25 := NB305_306.out
           have hnc25 := NB306_305.out
           have hcz26_0 : w21.cell? ⟨gb305, 0, none⟩ = some (.int .u64 0) := (blk_cell BK305.out 0).trans rfl
           have hcz26_1 : w21.cell? ⟨gb305, 1, none⟩ = some (.int .u64 0) := (blk_cell BK305.out 1).trans rfl
           have hcz26_2 : w21.cell? ⟨gb305, 2, none⟩ = some (.int .u8 0) := (blk_cell BK305.out 2).trans rfl
           have hcz26_3 : w21.cell? ⟨gb305, 3, none⟩ = some (.int .u8 0) := (blk_cell BK305.out 3).trans rfl
           have hcz26_4 : w21.cell? ⟨gb305, 4, none⟩ = some (.int .u8 0) := (blk_cell BK305.out 4).trans rfl
           have hcz26_5 : w21.cell? ⟨gb305, 5, none⟩ = some (.int .u8 0) := (blk_cell BK305.out 5).trans rfl
           have hcz26_6 : w21.cell? ⟨gb305, 6, none⟩ = some (.int .u8 0) := (blk_cell BK305.out 6).trans rfl
           have hcz26_7 : w21.cell? ⟨gb305, 7, none⟩ = some (.int .u8 0) := (blk_cell BK305.out 7).trans rfl
           have hcz26_8 : w21.cell? ⟨gb305, 8, none⟩ = some (.int .u8 0) := (blk_cell BK305.out 8).trans rfl
           have hcz26_9 : w21.cell? ⟨gb305, 9, none⟩ = some (.int .u8 0) := (blk_cell BK305.out 9).trans rfl
           have hcz26_10 : w21.cell? ⟨gb305, 10, none⟩ = some (.int .u8 0) := (blk_cell BK305.out 10).trans rfl
           have hcz26_11 : w21.cell? ⟨gb305, 11, none⟩ = some (.int .u8 0) := (blk_cell BK305.out 11).trans rfl
           have hcz26_12 : w21.cell? ⟨gb305, 12, none⟩ = some (.string (⟨#[]⟩ : ByteArray)) := (blk_cell BK305.out 12).trans rfl
           have hfz26_0 := blk_frozen BK305.out 0
           have hfz26_1 := blk_frozen BK305.out 1
           have hfz26_2 := blk_frozen BK305.out 2
           have hfz26_3 := blk_frozen BK305.out 3
           have hfz26_4 := blk_frozen BK305.out 4
           have hfz26_5 := blk_frozen BK305.out 5
           have hfz26_6 := blk_frozen BK305.out 6
           have hfz26_7 := blk_frozen BK305.out 7
           have hfz26_8 := blk_frozen BK305.out 8
           have hfz26_9 := blk_frozen BK305.out 9
           have hfz26_10 := blk_frozen BK305.out 10
           have hfz26_11 := blk_frozen BK305.out 11
           have hfz26_12 := blk_frozen BK305.out 12
           go_wp2
           refine bodyPost_ret (results_ct rfl _ _ gb305 27 #[.int .u64 0, .int .u64 0, .int .u8 0, .int .u8 0, .int .u8 0, .int .u8 0, .int .u8 0, .int .u8 0, .int .u8 0, .int .u8 0, .int .u8 0, .int .u8 0, .string (⟨#[]⟩ : ByteArray)] (0, 0) _ rfl (by (with_reducible repeat (first | refine blk_drewN ?_ _ | refine blk_drew ?_ | refine blk_alloc ?_ _)); refine blk_put (cs := #[.int .u64 0, .int .u64 0, .int .u8 0, .int .u8 0, .int .u8 0, .int .u8 0, .int .u8 0, .int .u8 0, .int .u8 0, .int .u8 0, .int .u8 0, .int .u8 0, .string (⟨#[]⟩ : ByteArray)]) ?_ 12 _ rfl; (with_reducible repeat (first | refine blk_drewN ?_ _ | refine blk_drew ?_ | refine blk_alloc ?_ _)); refine blk_put (cs := #[.int .u64 0, .int .u64 0, .int .u8 0, .int .u8 0, .int .u8 0, .int .u8 0, .int .u8 0, .int .u8 0, .int .u8 0, .int .u8 0, .int .u8 0, .int .u8 0, .string (⟨#[]⟩ : ByteArray)]) ?_ 11 _ rfl; (with_reducible repeat (first | refine blk_drewN ?_ _ | refine blk_drew ?_ | refine blk_alloc ?_ _)); refine blk_put (cs := #[.int .u64 0, .int .u64 0, .int .u8 0, .int .u8 0, .int .u8 0, .int .u8 0, .int .u8 0, .int .u8 0, .int .u8 0, .int .u8 0, .int .u8 0, .int .u8 0, .string (⟨#[]⟩ : ByteArray)]) ?_ 10 _ rfl; (with_reducible repeat (first | refine blk_drewN ?_ _ | refine blk_drew ?_ | refine blk_alloc ?_ _)); refine blk_put (cs := #[.int .u64 0, .int .u64 0, .int .u8 0, .int .u8 0, .int .u8 0, .int .u8 0, .int .u8 0, .int .u8 0, .int .u8 0, .int .u8 0, .int .u8 0, .int .u8 0, .string (⟨#[]⟩ : ByteArray)]) ?_ 9 _ rfl; (with_reducible repeat (first | refine blk_drewN ?_ _ | refine blk_drew ?_ | refine blk_alloc ?_ _)); refine blk_put (cs := #[.int .u64 0, .int .u64 0, .int .u8 0, .int .u8 0, .int .u8 0, .int .u8 0, .int .u8 0, .int .u8 0, .int .u8 0, .int .u8 0, .int .u8 0, .int .u8 0, .string (⟨#[]⟩ : ByteArray)]) ?_ 8 _ rfl; (with_reducible repeat (first | refine blk_drewN ?_ _ | refine blk_drew ?_ | refine blk_alloc ?_ _)); refine blk_put (cs := #[.int .u64 0, .int .u64 0, .int .u8 0, .int .u8 0, .int .u8 0, .int .u8 0, .int .u8 0, .int .u8 0, .int .u8 0, .int .u8 0, .int .u8 0, .int .u8 0, .string (⟨#[]⟩ : ByteArray)]) ?_ 7 _ rfl; (with_reducible repeat (first | refine blk_drewN ?_ _ | refine blk_drew ?_ | refine blk_alloc ?_ _)); refine blk_put (cs := #[.int .u64 0, .int .u64 0, .int .u8 0, .int .u8 0, .int .u8 0, .int .u8 0, .int .u8 0, .int .u8 0, .int .u8 0, .int .u8 0, .int .u8 0, .int .u8 0, .string (⟨#[]⟩ : ByteArray)]) ?_ 6 _ rfl; (with_reducible repeat (first | refine blk_drewN ?_ _ | refine blk_drew ?_ | refine blk_alloc ?_ _)); refine blk_put (cs := #[.int .u64 0, .int .u64 0, .int .u8 0, .int .u8 0, .int .u8 0, .int .u8 0, .int .u8 0, .int .u8 0, .int .u8 0, .int .u8 0, .int .u8 0, .int .u8 0, .string (⟨#[]⟩ : ByteArray)]) ?_ 5 _ rfl; (with_reducible repeat (first | refine blk_drewN ?_ _ | refine blk_drew ?_ | refine blk_alloc ?_ _)); refine blk_put (cs := #[.int .u64 0, .int .u64 0, .int .u8 0, .int .u8 0, .int .u8 0, .int .u8 0, .int .u8 0, .int .u8 0, .int .u8 0, .int .u8 0, .int .u8 0, .int .u8 0, .string (⟨#[]⟩ : ByteArray)]) ?_ 4 _ rfl; (with_reducible repeat (first | refine blk_drewN ?_ _ | refine blk_drew ?_ | refine blk_alloc ?_ _)); refine blk_put (cs := #[.int .u64 0, .int .u64 0, .int .u8 0, .int .u8 0, .int .u8 0, .int .u8 0, .int .u8 0, .int .u8 0, .int .u8 0, .int .u8 0, .int .u8 0, .int .u8 0, .string (⟨#[]⟩ : ByteArray)]) ?_ 3 _ rfl; (with_reducible repeat (first | refine blk_drewN ?_ _ | refine blk_drew ?_ | refine blk_alloc ?_ _)); refine blk_put (cs := #[.int .u64 0, .int .u64 0, .int .u8 0, .int .u8 0, .int .u8 0, .int .u8 0, .int .u8 0, .int .u8 0, .int .u8 0, .int .u8 0, .int .u8 0, .int .u8 0, .string (⟨#[]⟩ : ByteArray)]) ?_ 2 _ rfl; (with_reducible repeat (first | refine blk_drewN ?_ _ | refine blk_drew ?_ | refine blk_alloc ?_ _)); refine blk_put (cs := #[.int .u64 0, .int .u64 0, .int .u8 0, .int .u8 0, .int .u8 0, .int .u8 0, .int .u8 0, .int .u8 0, .int .u8 0, .int .u8 0, .int .u8 0, .int .u8 0, .string (⟨#[]⟩ : ByteArray)]) ?_ 1 _ rfl; (with_reducible repeat (first | refine blk_drewN ?_ _ | refine blk_drew ?_ | refine blk_alloc ?_ _)); refine blk_put (cs := #[.int .u64 0, .int .u64 0, .int .u8 0, .int .u8 0, .int .u8 0, .int .u8 0, .int .u8 0, .int .u8 0, .int .u8 0, .int .u8 0, .int .u8 0, .int .u8 0, .string (⟨#[]⟩ : ByteArray)]) ?_ 0 _ rfl; (with_reducible repeat (first | refine blk_drewN ?_ _ | refine blk_drew ?_ | refine blk_alloc ?_ _)); refine blk_far ?_ NB305_306.out _; (with_reducible repeat (first | refine blk_drewN ?_ _ | refine blk_drew ?_ | refine blk_alloc ?_ _)); refine blk_far ?_ NB305_306.out _; (with_reducible repeat (first | refine blk_drewN ?_ _ | refine blk_drew ?_ | refine blk_alloc ?_ _)); exact BK305.out) Try.underlying27 rfl (by kernel_rfl)) rfl ?_
           exact ⟨by first | rfl | (simp [errW_none, errW_some] <;> rfl) | (simp only [← hji10]; first | rfl | (simp [errW_none, errW_some] <;> rfl)) | (simp [*, errW_none, errW_some] <;> rfl), by repeat (first | (with_reducible first | exact HB.out | apply below_alloc | apply pw_below_drewN | apply below_drew1 | refine below_set ?_ GE305.out | refine below_set ?_ GE306.out) | exact HB.out)⟩
          ·rw [if_neg c24] at H
           have c24b0 : decide ((a0.size : Int) < (wrap64 ((wrap64 ((ji10) + t311)) + 9))) = false := decide_eq_false c24
           clear c24
           obtain ⟨ji27, hji27⟩ : ∃ j_ : Int, (wrap64 ((ji10) + t311)) = j_ := ⟨_, rfl⟩
           replace H : (if 0 ≤ (ji27) then (if (ji27) < (a0.size : Int) then (wapentakeref04_Read.l0 k a0 ji27 0 t307 t310 (bt a0 0) (bt a0 (ji27)) 0 0 0 0 0 0 0 0 (⟨#[]⟩ : ByteArray)) else (none)) else (none)) = some (r1, r2, r3, r4, r5, r6, r7, r8, r9, r10, r11, r12, r13, r14) := by first | (rw [hji27] at H; exact H) | (simp only [hji27] at H ⊢; exact H)
           (try rw [hji27] at c24b0)
           have hji27w : (IntKind.i64.wrap ((ji10) + t311)) = ji27 := (i64_w _).trans hji27
           by_cases c28 : 0 ≤ (ji27)
           ·rw [if_pos c28] at H
            have c28b0 : decide (0 ≤ (ji27)) = true := decide_eq_true c28
            clear c28
            by_cases c29 : (ji27) < (a0.size : Int)
            ·rw [if_pos c29] at H
             have c29b0 : decide ((ji27) < (a0.size : Int)) = true := decide_eq_true c29
             clear c29
             have H' := Aside0.mk H
             clear H
             have p30 : 0 ≤ ((ji27) : Int) := of_decide_eq_true (by first | (with_reducible assumption) | assumption)
             have q30 : (ji27) < (a0.size : Int) := of_decide_eq_true (by first | (with_reducible assumption) | assumption)
             have hx30 := bt_at a0 (ji27)
             replace p30 := eq_true p30
             replace q30 := eq_true q30
             have hnb31 := NB306_305.out
             have hnc31 := NB305_306.out
             have hcz32_0 : w21.cell? ⟨gb306, 0, none⟩ = some (.int .u64 0) := (blk_cell BK306.out 0).trans rfl
             have hcz32_1 : w21.cell? ⟨gb306, 1, none⟩ = some (.int .u64 0) := (blk_cell BK306.out 1).trans rfl
             have hcz32_2 : w21.cell? ⟨gb306, 2, none⟩ = some (.int .u8 (bt a0 0)) := (blk_cell BK306.out 2).trans rfl
             have hcz32_3 : w21.cell? ⟨gb306, 3, none⟩ = some (.int .u8 0) := (blk_cell BK306.out 3).trans rfl
             have hcz32_4 : w21.cell? ⟨gb306, 4, none⟩ = some (.int .u8 0) := (blk_cell BK306.out 4).trans rfl
             have hcz32_5 : w21.cell? ⟨gb306, 5, none⟩ = some (.int .u8 0) := (blk_cell BK306.out 5).trans rfl
             have hcz32_6 : w21.cell? ⟨gb306, 6, none⟩ = some (.int .u8 0) := (blk_cell BK306.out 6).trans rfl
             have hcz32_7 : w21.cell? ⟨gb306, 7, none⟩ = some (.int .u8 0) := (blk_cell BK306.out 7).trans rfl
             have hcz32_8 : w21.cell? ⟨gb306, 8, none⟩ = some (.int .u8 0) := (blk_cell BK306.out 8).trans rfl
             have hcz32_9 : w21.cell? ⟨gb306, 9, none⟩ = some (.int .u8 0) := (blk_cell BK306.out 9).trans rfl
             have hcz32_10 : w21.cell? ⟨gb306, 10, none⟩ = some (.int .u8 0) := (blk_cell BK306.out 10).trans rfl
             have hcz32_11 : w21.cell? ⟨gb306, 11, none⟩ = some (.int .u8 0) := (blk_cell BK306.out 11).trans rfl
             have hcz32_12 : w21.cell? ⟨gb306, 12, none⟩ = some (.string (⟨#[]⟩ : ByteArray)) := (blk_cell BK306.out 12).trans rfl
             have hfz32_0 := blk_frozen BK306.out 0
             have hfz32_1 := blk_frozen BK306.out 1
             have hfz32_2 := blk_frozen BK306.out 2
             have hfz32_3 := blk_frozen BK306.out 3
             have hfz32_4 := blk_frozen BK306.out 4
             have hfz32_5 := blk_frozen BK306.out 5
             have hfz32_6 := blk_frozen BK306.out 6
             have hfz32_7 := blk_frozen BK306.out 7
             have hfz32_8 := blk_frozen BK306.out 8
             have hfz32_9 := blk_frozen BK306.out 9
             have hfz32_10 := blk_frozen BK306.out 10
             have hfz32_11 := blk_frozen BK306.out 11
             have hfz32_12 := blk_frozen BK306.out 12
             go_wp2
             (try rw [hji27])
             go_loopg [11] k (fun kq v11 w' => ∃ (x11_1 : Int) (x307004_1 : Int) (x307005_1 : Int) (x307006_1 : Int) (x307007_1 : Int) (x307008_1 : Int) (x307009_1 : Int) (x307010_1 : Int) (x307011_1 : Int), v11 = .int .i64 x11_1 ∧ Aside0 (wapentakeref04_Read.l0 kq a0 ji27 x11_1 t307 t310 (bt a0 0) (bt a0 (ji27)) x307004_1 x307005_1 x307006_1 x307007_1 x307008_1 x307009_1 x307010_1 x307011_1 (⟨#[]⟩ : ByteArray) = some (r1, r2, r3, r4, r5, r6, r7, r8, r9, r10, r11, r12, r13, r14)) ∧ Aside0 (kq ≤ k) ∧ Aside0 (w'.heap[gb305]? = some (.cells #[.int .u64 0, .int .u64 0, .int .u8 0, .int .u8 0, .int .u8 0, .int .u8 0, .int .u8 0, .int .u8 0, .int .u8 0, .int .u8 0, .int .u8 0, .int .u8 0, .string (⟨#[]⟩ : ByteArray)] 27 (0, 0))) ∧ Aside0 (w'.heap[gb306]? = some (.cells #[.int .u64 t307, .int .u64 t310, .int .u8 (bt a0 0), .int .u8 (bt a0 (ji27)), .int .u8 x307004_1, .int .u8 x307005_1, .int .u8 x307006_1, .int .u8 x307007_1, .int .u8 x307008_1, .int .u8 x307009_1, .int .u8 x307010_1, .int .u8 x307011_1, .string (⟨#[]⟩ : ByteArray)] 27 (0, 0))) ∧ Aside0 (Below w.heap.size w w'))
             case atStart => exact ⟨(0), (0), (0), (0), (0), (0), (0), (0), (0), (by first | (with_reducible rfl) | (simp; done) | (simp [*]; done) | (refine congrArg (Value.int _) ?_; unfold wrap64; omega) | rfl), H', ⟨Nat.le_refl _⟩, ⟨by (with_reducible repeat (first | refine blk_drewN ?_ _ | refine blk_drew ?_ | refine blk_alloc ?_ _)); refine blk_far ?_ NB305_306.out _; (with_reducible repeat (first | refine blk_drewN ?_ _ | refine blk_drew ?_ | refine blk_alloc ?_ _)); refine blk_far ?_ NB305_306.out _; (with_reducible repeat (first | refine blk_drewN ?_ _ | refine blk_drew ?_ | refine blk_alloc ?_ _)); refine blk_far ?_ NB305_306.out _; (with_reducible repeat (first | refine blk_drewN ?_ _ | refine blk_drew ?_ | refine blk_alloc ?_ _)); exact BK305.out⟩, ⟨by (with_reducible repeat (first | refine blk_drewN ?_ _ | refine blk_drew ?_ | refine blk_alloc ?_ _)); refine blk_put (cs := #[.int .u64 t307, .int .u64 t310, .int .u8 (bt a0 0), .int .u8 0, .int .u8 0, .int .u8 0, .int .u8 0, .int .u8 0, .int .u8 0, .int .u8 0, .int .u8 0, .int .u8 0, .string (⟨#[]⟩ : ByteArray)]) ?_ 3 _ rfl; (with_reducible repeat (first | refine blk_drewN ?_ _ | refine blk_drew ?_ | refine blk_alloc ?_ _)); refine blk_put (cs := #[.int .u64 t307, .int .u64 0, .int .u8 (bt a0 0), .int .u8 0, .int .u8 0, .int .u8 0, .int .u8 0, .int .u8 0, .int .u8 0, .int .u8 0, .int .u8 0, .int .u8 0, .string (⟨#[]⟩ : ByteArray)]) ?_ 1 _ rfl; (with_reducible repeat (first | refine blk_drewN ?_ _ | refine blk_drew ?_ | refine blk_alloc ?_ _)); refine blk_put (cs := #[.int .u64 0, .int .u64 0, .int .u8 (bt a0 0), .int .u8 0, .int .u8 0, .int .u8 0, .int .u8 0, .int .u8 0, .int .u8 0, .int .u8 0, .int .u8 0, .int .u8 0, .string (⟨#[]⟩ : ByteArray)]) ?_ 0 _ rfl; (with_reducible repeat (first | refine blk_drewN ?_ _ | refine blk_drew ?_ | refine blk_alloc ?_ _)); exact BK306.out⟩, ⟨by repeat (first | (with_reducible first | exact HB.out | apply below_alloc | apply pw_below_drewN | apply below_drew1 | refine below_set ?_ GE305.out | refine below_set ?_ GE306.out) | exact HB.out)⟩⟩
             case round =>
              clear H'
              try clear c1
              try clear c2
              try clear c2b0
              try clear c2b1
              try clear p2
              try clear c3
              try clear p3
              try clear q3
              try clear hx3
              try clear c5
              try clear c5b0
              try clear c5b1
              try clear p6
              try clear q6
              try clear hx6
              try clear qi6
              try clear c7
              try clear c7b0
              try clear c7b1
              try clear c9
              try clear c11
              try clear c11b0
              try clear c11b1
              try clear c12
              try clear c12b0
              try clear c12b1
              try clear c14
              try clear c17
              try clear c18
              try clear c23
              try clear c23b0
              try clear c23b1
              try clear c24
              try clear c24b0
              try clear c25
              try clear c28
              try clear c28b0
              try clear c29
              try clear c29b0
              try clear p30
              try clear q30
              try clear hx30
              try clear c31
              try clear hcz19_0
              try clear hcz19_1
              try clear hcz19_10
              try clear hcz19_11
              try clear hcz19_12
              try clear hcz19_2
              try clear hcz19_3
              try clear hcz19_4
              try clear hcz19_5
              try clear hcz19_6
              try clear hcz19_7
              try clear hcz19_8
              try clear hcz19_9
              try clear hcz22_0
              try clear hcz22_1
              try clear hcz22_10
              try clear hcz22_11
              try clear hcz22_12
              try clear hcz22_2
              try clear hcz22_3
              try clear hcz22_4
              try clear hcz22_5
              try clear hcz22_6
              try clear hcz22_7
              try clear hcz22_8
              try clear hcz22_9
              try clear hcz26_0
              try clear hcz26_1
              try clear hcz26_10
              try clear hcz26_11
              try clear hcz26_12
              try clear hcz26_2
              try clear hcz26_3
              try clear hcz26_4
              try clear hcz26_5
              try clear hcz26_6
              try clear hcz26_7
              try clear hcz26_8
              try clear hcz26_9
              try clear hcz32_0
              try clear hcz32_1
              try clear hcz32_10
              try clear hcz32_11
              try clear hcz32_12
              try clear hcz32_2
              try clear hcz32_3
              try clear hcz32_4
              try clear hcz32_5
              try clear hcz32_6
              try clear hcz32_7
              try clear hcz32_8
              try clear hcz32_9
              try clear hcz4_0
              try clear hcz4_1
              try clear hcz4_10
              try clear hcz4_11
              try clear hcz4_12
              try clear hcz4_2
              try clear hcz4_3
              try clear hcz4_4
              try clear hcz4_5
              try clear hcz4_6
              try clear hcz4_7
              try clear hcz4_8
              try clear hcz4_9
              try clear hfz19_0
              try clear hfz19_1
              try clear hfz19_10
              try clear hfz19_11
              try clear hfz19_12
              try clear hfz19_2
              try clear hfz19_3
              try clear hfz19_4
              try clear hfz19_5
              try clear hfz19_6
              try clear hfz19_7
              try clear hfz19_8
              try clear hfz19_9
              try clear hfz22_0
              try clear hfz22_1
              try clear hfz22_10
              try clear hfz22_11
              try clear hfz22_12
              try clear hfz22_2
              try clear hfz22_3
              try clear hfz22_4
              try clear hfz22_5
              try clear hfz22_6
              try clear hfz22_7
              try clear hfz22_8
              try clear hfz22_9
              try clear hfz26_0
              try clear hfz26_1
              try clear hfz26_10
              try clear hfz26_11
              try clear hfz26_12
              try clear hfz26_2
              try clear hfz26_3
              try clear hfz26_4
              try clear hfz26_5
              try clear hfz26_6
              try clear hfz26_7
              try clear hfz26_8
              try clear hfz26_9
              try clear hfz32_0
              try clear hfz32_1
              try clear hfz32_10
              try clear hfz32_11
              try clear hfz32_12
              try clear hfz32_2
              try clear hfz32_3
              try clear hfz32_4
              try clear hfz32_5
              try clear hfz32_6
              try clear hfz32_7
              try clear hfz32_8
              try clear hfz32_9
              try clear hfz4_0
              try clear hfz4_1
              try clear hfz4_10
              try clear hfz4_11
              try clear hfz4_12
              try clear hfz4_2
              try clear hfz4_3
              try clear hfz4_4
              try clear hfz4_5
              try clear hfz4_6
              try clear hfz4_7
              try clear hfz4_8
              try clear hfz4_9
              try clear p30
              try clear p6
              try clear q30
              try clear q6
              obtain ⟨x11_1, x307004_1, x307005_1, x307006_1, x307007_1, x307008_1, x307009_1, x307010_1, x307011_1, rfl, HA, HK1, BK305, BK306, HB⟩ := hrel
              cases gk with
              | zero => exact absurd HA.out (by simp [wapentakeref04_Read.l0])
              | succ k1 =>
               have H := HA.out
               clear HA
               simp only [wapentakeref04_Read.l0] at H
               by_cases c33 : x11_1 < 8
               ·rw [if_pos c33] at H
                have c33b0 : decide (x11_1 < 8) = true := decide_eq_true c33
                clear c33
                obtain ⟨ji34, hji34⟩ : ∃ j_ : Int, (wrap64 ((wrap64 (ji27 + 1)) + x11_1)) = j_ := ⟨_, rfl⟩
                replace H : (if 0 ≤ (ji34) then (if (ji34) < (a0.size : Int) then (if 0 ≤ x11_1 then (if x11_1 = 0 then (wapentakeref04_Read.l0 k1 a0 ji27 (wrap64 (x11_1 + 1)) t307 t310 (bt a0 0) (bt a0 (ji27)) (bt a0 (ji34)) x307005_1 x307006_1 x307007_1 x307008_1 x307009_1 x307010_1 x307011_1 (⟨#[]⟩ : ByteArray)) else (if x11_1 = 1 then (wapentakeref04_Read.l0 k1 a0 ji27 (wrap64 (x11_1 + 1)) t307 t310 (bt a0 0) (bt a0 (ji27)) x307004_1 (bt a0 (ji34)) x307006_1 x307007_1 x307008_1 x307009_1 x307010_1 x307011_1 (⟨#[]⟩ : ByteArray)) else (if x11_1 = 2 then (wapentakeref04_Read.l0 k1 a0 ji27 (wrap64 (x11_1 + 1)) t307 t310 (bt a0 0) (bt a0 (ji27)) x307004_1 x307005_1 (bt a0 (ji34)) x307007_1 x307008_1 x307009_1 x307010_1 x307011_1 (⟨#[]⟩ : ByteArray)) else (if x11_1 = 3 then (wapentakeref04_Read.l0 k1 a0 ji27 (wrap64 (x11_1 + 1)) t307 t310 (bt a0 0) (bt a0 (ji27)) x307004_1 x307005_1 x307006_1 (bt a0 (ji34)) x307008_1 x307009_1 x307010_1 x307011_1 (⟨#[]⟩ : ByteArray)) else (if x11_1 = 4 then (wapentakeref04_Read.l0 k1 a0 ji27 (wrap64 (x11_1 + 1)) t307 t310 (bt a0 0) (bt a0 (ji27)) x307004_1 x307005_1 x307006_1 x307007_1 (bt a0 (ji34)) x307009_1 x307010_1 x307011_1 (⟨#[]⟩ : ByteArray)) else (if x11_1 = 5 then (wapentakeref04_Read.l0 k1 a0 ji27 (wrap64 (x11_1 + 1)) t307 t310 (bt a0 0) (bt a0 (ji27)) x307004_1 x307005_1 x307006_1 x307007_1 x307008_1 (bt a0 (ji34)) x307010_1 x307011_1 (⟨#[]⟩ : ByteArray)) else (if x11_1 = 6 then (wapentakeref04_Read.l0 k1 a0 ji27 (wrap64 (x11_1 + 1)) t307 t310 (bt a0 0) (bt a0 (ji27)) x307004_1 x307005_1 x307006_1 x307007_1 x307008_1 x307009_1 (bt a0 (ji34)) x307011_1 (⟨#[]⟩ : ByteArray)) else (if x11_1 = 7 then (wapentakeref04_Read.l0 k1 a0 ji27 (wrap64 (x11_1 + 1)) t307 t310 (bt a0 0) (bt a0 (ji27)) x307004_1 x307005_1 x307006_1 x307007_1 x307008_1 x307009_1 x307010_1 (bt a0 (ji34)) (⟨#[]⟩ : ByteArray)) else (none))))))))) else (none)) else (none)) else (none)) = some (r1, r2, r3, r4, r5, r6, r7, r8, r9, r10, r11, r12, r13, r14) := by first | (rw [hji34] at H; exact H) | (simp only [hji34] at H ⊢; exact H)
                have hji34w : (IntKind.i64.wrap ((wrap64 (ji27 + 1)) + x11_1)) = ji34 := (i64_w _).trans hji34
                by_cases c35 : 0 ≤ (ji34)
                ·rw [if_pos c35] at H
                 have c35b0 : decide (0 ≤ (ji34)) = true := decide_eq_true c35
                 clear c35
                 by_cases c36 : (ji34) < (a0.size : Int)
                 ·rw [if_pos c36] at H
                  have c36b0 : decide ((ji34) < (a0.size : Int)) = true := decide_eq_true c36
                  clear c36
                  by_cases c38 : 0 ≤ x11_1
                  ·rw [if_pos c38] at H
                   have c38b0 : decide (0 ≤ x11_1) = true := decide_eq_true c38
                   clear c38
                   by_cases c39 : x11_1 = 0
                   ·rw [if_pos c39] at H
                    have c39b0 : (x11_1 == 0) = true := beq_iff_eq.mpr c39
                    have c39b1 : (x11_1 != 0) = false := bne_eq_false_iff_eq.mpr c39
                    clear c39
                    have c40e : x11_1 = 0 := by first | omega | (have h_ := eq_of_beq (show ((x11_1) == 0) = true from by first | assumption | (with_reducible assumption)); omega)
                    have c40l : x11_1 ≤ 0 := by omega
                    have c40g : 0 ≤ x11_1 := by omega
                    have c40t : (x11_1 : Int).toNat = 0 := by omega
                    clear c40e
                    have H' := Aside0.mk H
                    clear H
                    have p37 : 0 ≤ ((ji34) : Int) := of_decide_eq_true (by first | (with_reducible assumption) | assumption)
                    have q37 : (ji34) < (a0.size : Int) := of_decide_eq_true (by first | (with_reducible assumption) | assumption)
                    have hx37 := bt_at a0 (ji34)
                    replace p37 := eq_true p37
                    replace q37 := eq_true q37
                    have hnb41 := NB306_305.out
                    have hnc41 := NB305_306.out
                    have hcz42_0 : wr.cell? ⟨gb306, 0, none⟩ = some (.int .u64 t307) := (blk_cell BK306.out 0).trans rfl
                    have hcz42_1 : wr.cell? ⟨gb306, 1, none⟩ = some (.int .u64 t310) := (blk_cell BK306.out 1).trans rfl
                    have hcz42_2 : wr.cell? ⟨gb306, 2, none⟩ = some (.int .u8 (bt a0 0)) := (blk_cell BK306.out 2).trans rfl
                    have hcz42_3 : wr.cell? ⟨gb306, 3, none⟩ = some (.int .u8 (bt a0 (ji27))) := (blk_cell BK306.out 3).trans rfl
                    have hcz42_4 : wr.cell? ⟨gb306, 4, none⟩ = some (.int .u8 x307004_1) := (blk_cell BK306.out 4).trans rfl
                    have hcz42_5 : wr.cell? ⟨gb306, 5, none⟩ = some (.int .u8 x307005_1) := (blk_cell BK306.out 5).trans rfl
                    have hcz42_6 : wr.cell? ⟨gb306, 6, none⟩ = some (.int .u8 x307006_1) := (blk_cell BK306.out 6).trans rfl
                    have hcz42_7 : wr.cell? ⟨gb306, 7, none⟩ = some (.int .u8 x307007_1) := (blk_cell BK306.out 7).trans rfl
                    have hcz42_8 : wr.cell? ⟨gb306, 8, none⟩ = some (.int .u8 x307008_1) := (blk_cell BK306.out 8).trans rfl
                    have hcz42_9 : wr.cell? ⟨gb306, 9, none⟩ = some (.int .u8 x307009_1) := (blk_cell BK306.out 9).trans rfl
                    have hcz42_10 : wr.cell? ⟨gb306, 10, none⟩ = some (.int .u8 x307010_1) := (blk_cell BK306.out 10).trans rfl
                    have hcz42_11 : wr.cell? ⟨gb306, 11, none⟩ = some (.int .u8 x307011_1) := (blk_cell BK306.out 11).trans rfl
                    have hcz42_12 : wr.cell? ⟨gb306, 12, none⟩ = some (.string (⟨#[]⟩ : ByteArray)) := (blk_cell BK306.out 12).trans rfl
                    have hfz42_0 := blk_frozen BK306.out 0
                    have hfz42_1 := blk_frozen BK306.out 1
                    have hfz42_2 := blk_frozen BK306.out 2
                    have hfz42_3 := blk_frozen BK306.out 3
                    have hfz42_4 := blk_frozen BK306.out 4
                    have hfz42_5 := blk_frozen BK306.out 5
                    have hfz42_6 := blk_frozen BK306.out 6
                    have hfz42_7 := blk_frozen BK306.out 7
                    have hfz42_8 := blk_frozen BK306.out 8
                    have hfz42_9 := blk_frozen BK306.out 9
                    have hfz42_10 := blk_frozen BK306.out 10
                    have hfz42_11 := blk_frozen BK306.out 11
                    have hfz42_12 := blk_frozen BK306.out 12
                    go_wp2
                    go_roundg k1
                    case measure => have := HK1.out; omega
                    case rel => exact ⟨(wrap64 (x11_1 + 1)), (bt a0 (ji34)), (x307005_1), (x307006_1), (x307007_1), (x307008_1), (x307009_1), (x307010_1), (x307011_1), (by first | (with_reducible rfl) | (simp; done) | (simp [*]; done) | (refine congrArg (Value.int _) ?_; unfold wrap64; omega) | rfl), H', ⟨by have := HK1.out; omega⟩, ⟨by (with_reducible repeat (first | refine blk_drewN ?_ _ | refine blk_drew ?_ | refine blk_alloc ?_ _)); refine blk_far ?_ NB305_306.out _; (with_reducible repeat (first | refine blk_drewN ?_ _ | refine blk_drew ?_ | refine blk_alloc ?_ _)); exact BK305.out⟩, ⟨by (with_reducible repeat (first | refine blk_drewN ?_ _ | refine blk_drew ?_ | refine blk_alloc ?_ _)); refine blk_put (cs := #[.int .u64 t307, .int .u64 t310, .int .u8 (bt a0 0), .int .u8 (bt a0 (ji27)), .int .u8 x307004_1, .int .u8 x307005_1, .int .u8 x307006_1, .int .u8 x307007_1, .int .u8 x307008_1, .int .u8 x307009_1, .int .u8 x307010_1, .int .u8 x307011_1, .string (⟨#[]⟩ : ByteArray)]) ?_ 4 _ rfl; (with_reducible repeat (first | refine blk_drewN ?_ _ | refine blk_drew ?_ | refine blk_alloc ?_ _)); exact BK306.out⟩, ⟨by repeat (first | (with_reducible first | exact HB.out | apply below_alloc | apply pw_below_drewN | apply below_drew1 | refine below_set ?_ GE305.out | refine below_set ?_ GE306.out) | exact HB.out)⟩⟩
                   ·rw [if_neg c39] at H
                    have c39b0 : (x11_1 == 0) = false := beq_eq_false_iff_ne.mpr c39
                    have c39b1 : (x11_1 != 0) = true := bne_iff_ne.mpr c39
                    by_cases c43 : x11_1 = 1
                    ·rw [if_pos c43] at H
                     have c43b0 : (x11_1 == 1) = true := beq_iff_eq.mpr c43
                     have c43b1 : (x11_1 != 1) = false := bne_eq_false_iff_eq.mpr c43
                     clear c43
                     have c44e : x11_1 = 1 := by first | omega | (have h_ := eq_of_beq (show ((x11_1) == 1) = true from by first | assumption | (with_reducible assumption)); omega)
                     have c44l : x11_1 ≤ 1 := by omega
                     have c44g : 1 ≤ x11_1 := by omega
                     have c44t : (x11_1 : Int).toNat = 1 := by omega
                     clear c44e
                     have H' := Aside0.mk H
                     clear H
                     have p37 : 0 ≤ ((ji34) : Int) := of_decide_eq_true (by first | (with_reducible assumption) | assumption)
                     have q37 : (ji34) < (a0.size : Int) := of_decide_eq_true (by first | (with_reducible assumption) | assumption)
                     have hx37 := bt_at a0 (ji34)
                     replace p37 := eq_true p37
                     replace q37 := eq_true q37
                     have hnb45 := NB306_305.out
                     have hnc45 := NB305_306.out
                     have hcz46_0 : wr.cell? ⟨gb306, 0, none⟩ = some (.int .u64 t307) := (blk_cell BK306.out 0).trans rfl
                     have hcz46_1 : wr.cell? ⟨gb306, 1, none⟩ = some (.int .u64 t310) := (blk_cell BK306.out 1).trans rfl
                     have hcz46_2 : wr.cell? ⟨gb306, 2, none⟩ = some (.int .u8 (bt a0 0)) := (blk_cell BK306.out 2).trans rfl
                     have hcz46_3 : wr.cell? ⟨gb306, 3, none⟩ = some (.int .u8 (bt a0 (ji27))) := (blk_cell BK306.out 3).trans rfl
                     have hcz46_4 : wr.cell? ⟨gb306, 4, none⟩ = some (.int .u8 x307004_1) := (blk_cell BK306.out 4).trans rfl
                     have hcz46_5 : wr.cell? ⟨gb306, 5, none⟩ = some (.int .u8 x307005_1) := (blk_cell BK306.out 5).trans rfl
                     have hcz46_6 : wr.cell? ⟨gb306, 6, none⟩ = some (.int .u8 x307006_1) := (blk_cell BK306.out 6).trans rfl
                     have hcz46_7 : wr.cell? ⟨gb306, 7, none⟩ = some (.int .u8 x307007_1) := (blk_cell BK306.out 7).trans rfl
                     have hcz46_8 : wr.cell? ⟨gb306, 8, none⟩ = some (.int .u8 x307008_1) := (blk_cell BK306.out 8).trans rfl
                     have hcz46_9 : wr.cell? ⟨gb306, 9, none⟩ = some (.int .u8 x307009_1) := (blk_cell BK306.out 9).trans rfl
                     have hcz46_10 : wr.cell? ⟨gb306, 10, none⟩ = some (.int .u8 x307010_1) := (blk_cell BK306.out 10).trans rfl
                     have hcz46_11 : wr.cell? ⟨gb306, 11, none⟩ = some (.int .u8 x307011_1) := (blk_cell BK306.out 11).trans rfl
                     have hcz46_12 : wr.cell? ⟨gb306, 12, none⟩ = some (.string (⟨#[]⟩ : ByteArray)) := (blk_cell BK306.out 12).trans rfl
                     have hfz46_0 := blk_frozen BK306.out 0
                     have hfz46_1 := blk_frozen BK306.out 1
                     have hfz46_2 := blk_frozen BK306.out 2
                     have hfz46_3 := blk_frozen BK306.out 3
                     have hfz46_4 := blk_frozen BK306.out 4
                     have hfz46_5 := blk_frozen BK306.out 5
                     have hfz46_6 := blk_frozen BK306.out 6
                     have hfz46_7 := blk_frozen BK306.out 7
                     have hfz46_8 := blk_frozen BK306.out 8
                     have hfz46_9 := blk_frozen BK306.out 9
                     have hfz46_10 := blk_frozen BK306.out 10
                     have hfz46_11 := blk_frozen BK306.out 11
                     have hfz46_12 := blk_frozen BK306.out 12
                     go_wp2
                     go_roundg k1
                     case measure => have := HK1.out; omega
                     case rel => exact ⟨(wrap64 (x11_1 + 1)), (x307004_1), (bt a0 (ji34)), (x307006_1), (x307007_1), (x307008_1), (x307009_1), (x307010_1), (x307011_1), (by first | (with_reducible rfl) | (simp; done) | (simp [*]; done) | (refine congrArg (Value.int _) ?_; unfold wrap64; omega) | rfl), H', ⟨by have := HK1.out; omega⟩, ⟨by (with_reducible repeat (first | refine blk_drewN ?_ _ | refine blk_drew ?_ | refine blk_alloc ?_ _)); refine blk_far ?_ NB305_306.out _; (with_reducible repeat (first | refine blk_drewN ?_ _ | refine blk_drew ?_ | refine blk_alloc ?_ _)); exact BK305.out⟩, ⟨by (with_reducible repeat (first | refine blk_drewN ?_ _ | refine blk_drew ?_ | refine blk_alloc ?_ _)); refine blk_put (cs := #[.int .u64 t307, .int .u64 t310, .int .u8 (bt a0 0), .int .u8 (bt a0 (ji27)), .int .u8 x307004_1, .int .u8 x307005_1, .int .u8 x307006_1, .int .u8 x307007_1, .int .u8 x307008_1, .int .u8 x307009_1, .int .u8 x307010_1, .int .u8 x307011_1, .string (⟨#[]⟩ : ByteArray)]) ?_ 5 _ rfl; (with_reducible repeat (first | refine blk_drewN ?_ _ | refine blk_drew ?_ | refine blk_alloc ?_ _)); exact BK306.out⟩, ⟨by repeat (first | (with_reducible first | exact HB.out | apply below_alloc | apply pw_below_drewN | apply below_drew1 | refine below_set ?_ GE305.out | refine below_set ?_ GE306.out) | exact HB.out)⟩⟩
                    ·rw [if_neg c43] at H
                     have c43b0 : (x11_1 == 1) = false := beq_eq_false_iff_ne.mpr c43
                     have c43b1 : (x11_1 != 1) = true := bne_iff_ne.mpr c43
                     by_cases c47 : x11_1 = 2
                     ·rw [if_pos c47] at H
                      have c47b0 : (x11_1 == 2) = true := beq_iff_eq.mpr c47
                      have c47b1 : (x11_1 != 2) = false := bne_eq_false_iff_eq.mpr c47
                      clear c47
                      have c48e : x11_1 = 2 := by first | omega | (have h_ := eq_of_beq (show ((x11_1) == 2) = true from by first | assumption | (with_reducible assumption)); omega)
                      have c48l : x11_1 ≤ 2 := by omega
                      have c48g : 2 ≤ x11_1 := by omega
                      have c48t : (x11_1 : Int).toNat = 2 := by omega
                      clear c48e
                      have H' := Aside0.mk H
                      clear H
                      have p37 : 0 ≤ ((ji34) : Int) := of_decide_eq_true (by first | (with_reducible assumption) | assumption)
                      have q37 : (ji34) < (a0.size : Int) := of_decide_eq_true (by first | (with_reducible assumption) | assumption)
                      have hx37 := bt_at a0 (ji34)
                      replace p37 := eq_true p37
                      replace q37 := eq_true q37
                      have hnb49 := NB306_305.out
                      have hnc49 := NB305_306.out
                      have hcz50_0 : wr.cell? ⟨gb306, 0, none⟩ = some (.int .u64 t307) := (blk_cell BK306.out 0).trans rfl
                      have hcz50_1 : wr.cell? ⟨gb306, 1, none⟩ = some (.int .u64 t310) := (blk_cell BK306.out 1).trans rfl
                      have hcz50_2 : wr.cell? ⟨gb306, 2, none⟩ = some (.int .u8 (bt a0 0)) := (blk_cell BK306.out 2).trans rfl
                      have hcz50_3 : wr.cell? ⟨gb306, 3, none⟩ = some (.int .u8 (bt a0 (ji27))) := (blk_cell BK306.out 3).trans rfl
                      have hcz50_4 : wr.cell? ⟨gb306, 4, none⟩ = some (.int .u8 x307004_1) := (blk_cell BK306.out 4).trans rfl
                      have hcz50_5 : wr.cell? ⟨gb306, 5, none⟩ = some (.int .u8 x307005_1) := (blk_cell BK306.out 5).trans rfl
                      have hcz50_6 : wr.cell? ⟨gb306, 6, none⟩ = some (.int .u8 x307006_1) := (blk_cell BK306.out 6).trans rfl
                      have hcz50_7 : wr.cell? ⟨gb306, 7, none⟩ = some (.int .u8 x307007_1) := (blk_cell BK306.out 7).trans rfl
                      have hcz50_8 : wr.cell? ⟨gb306, 8, none⟩ = some (.int .u8 x307008_1) := (blk_cell BK306.out 8).trans rfl
                      have hcz50_9 : wr.cell? ⟨gb306, 9, none⟩ = some (.int .u8 x307009_1) := (blk_cell BK306.out 9).trans rfl
                      have hcz50_10 : wr.cell? ⟨gb306, 10, none⟩ = some (.int .u8 x307010_1) := (blk_cell BK306.out 10).trans rfl
                      have hcz50_11 : wr.cell? ⟨gb306, 11, none⟩ = some (.int .u8 x307011_1) := (blk_cell BK306.out 11).trans rfl
                      have hcz50_12 : wr.cell? ⟨gb306, 12, none⟩ = some (.string (⟨#[]⟩ : ByteArray)) := (blk_cell BK306.out 12).trans rfl
                      have hfz50_0 := blk_frozen BK306.out 0
                      have hfz50_1 := blk_frozen BK306.out 1
                      have hfz50_2 := blk_frozen BK306.out 2
                      have hfz50_3 := blk_frozen BK306.out 3
                      have hfz50_4 := blk_frozen BK306.out 4
                      have hfz50_5 := blk_frozen BK306.out 5
                      have hfz50_6 := blk_frozen BK306.out 6
                      have hfz50_7 := blk_frozen BK306.out 7
                      have hfz50_8 := blk_frozen BK306.out 8
                      have hfz50_9 := blk_frozen BK306.out 9
                      have hfz50_10 := blk_frozen BK306.out 10
                      have hfz50_11 := blk_frozen BK306.out 11
                      have hfz50_12 := blk_frozen BK306.out 12
                      go_wp2
                      go_roundg k1
                      case measure => have := HK1.out; omega
                      case rel => exact ⟨(wrap64 (x11_1 + 1)), (x307004_1), (x307005_1), (bt a0 (ji34)), (x307007_1), (x307008_1), (x307009_1), (x307010_1), (x307011_1), (by first | (with_reducible rfl) | (simp; done) | (simp [*]; done) | (refine congrArg (Value.int _) ?_; unfold wrap64; omega) | rfl), H', ⟨by have := HK1.out; omega⟩, ⟨by (with_reducible repeat (first | refine blk_drewN ?_ _ | refine blk_drew ?_ | refine blk_alloc ?_ _)); refine blk_far ?_ NB305_306.out _; (with_reducible repeat (first | refine blk_drewN ?_ _ | refine blk_drew ?_ | refine blk_alloc ?_ _)); exact BK305.out⟩, ⟨by (with_reducible repeat (first | refine blk_drewN ?_ _ | refine blk_drew ?_ | refine blk_alloc ?_ _)); refine blk_put (cs := #[.int .u64 t307, .int .u64 t310, .int .u8 (bt a0 0), .int .u8 (bt a0 (ji27)), .int .u8 x307004_1, .int .u8 x307005_1, .int .u8 x307006_1, .int .u8 x307007_1, .int .u8 x307008_1, .int .u8 x307009_1, .int .u8 x307010_1, .int .u8 x307011_1, .string (⟨#[]⟩ : ByteArray)]) ?_ 6 _ rfl; (with_reducible repeat (first | refine blk_drewN ?_ _ | refine blk_drew ?_ | refine blk_alloc ?_ _)); exact BK306.out⟩, ⟨by repeat (first | (with_reducible first | exact HB.out | apply below_alloc | apply pw_below_drewN | apply below_drew1 | refine below_set ?_ GE305.out | refine below_set ?_ GE306.out) | exact HB.out)⟩⟩
                     ·rw [if_neg c47] at H
                      have c47b0 : (x11_1 == 2) = false := beq_eq_false_iff_ne.mpr c47
                      have c47b1 : (x11_1 != 2) = true := bne_iff_ne.mpr c47
                      by_cases c51 : x11_1 = 3
                      ·rw [if_pos c51] at H
                       have c51b0 : (x11_1 == 3) = true := beq_iff_eq.mpr c51
                       have c51b1 : (x11_1 != 3) = false := bne_eq_false_iff_eq.mpr c51
                       clear c51
                       have c52e : x11_1 = 3 := by first | omega | (have h_ := eq_of_beq (show ((x11_1) == 3) = true from by first | assumption | (with_reducible assumption)); omega)
                       have c52l : x11_1 ≤ 3 := by omega
                       have c52g : 3 ≤ x11_1 := by omega
                       have c52t : (x11_1 : Int).toNat = 3 := by omega
                       clear c52e
                       have H' := Aside0.mk H
                       clear H
                       have p37 : 0 ≤ ((ji34) : Int) := of_decide_eq_true (by first | (with_reducible assumption) | assumption)
                       have q37 : (ji34) < (a0.size : Int) := of_decide_eq_true (by first | (with_reducible assumption) | assumption)
                       have hx37 := bt_at a0 (ji34)
                       replace p37 := eq_true p37
                       replace q37 := eq_true q37
                       have hnb53 := NB306_305.out
                       have hnc53 := NB305_306.out
                       have hcz54_0 : wr.cell? ⟨gb306, 0, none⟩ = some (.int .u64 t307) := (blk_cell BK306.out 0).trans rfl
                       have hcz54_1 : wr.cell? ⟨gb306, 1, none⟩ = some (.int .u64 t310) := (blk_cell BK306.out 1).trans rfl
                       have hcz54_2 : wr.cell? ⟨gb306, 2, none⟩ = some (.int .u8 (bt a0 0)) := (blk_cell BK306.out 2).trans rfl
                       have hcz54_3 : wr.cell? ⟨gb306, 3, none⟩ = some (.int .u8 (bt a0 (ji27))) := (blk_cell BK306.out 3).trans rfl
                       have hcz54_4 : wr.cell? ⟨gb306, 4, none⟩ = some (.int .u8 x307004_1) := (blk_cell BK306.out 4).trans rfl
                       have hcz54_5 : wr.cell? ⟨gb306, 5, none⟩ = some (.int .u8 x307005_1) := (blk_cell BK306.out 5).trans rfl
                       have hcz54_6 : wr.cell? ⟨gb306, 6, none⟩ = some (.int .u8 x307006_1) := (blk_cell BK306.out 6).trans rfl
                       have hcz54_7 : wr.cell? ⟨gb306, 7, none⟩ = some (.int .u8 x307007_1) := (blk_cell BK306.out 7).trans rfl
                       have hcz54_8 : wr.cell? ⟨gb306, 8, none⟩ = some (.int .u8 x307008_1) := (blk_cell BK306.out 8).trans rfl
                       have hcz54_9 : wr.cell? ⟨gb306, 9, none⟩ = some (.int .u8 x307009_1) := (blk_cell BK306.out 9).trans rfl
                       have hcz54_10 : wr.cell? ⟨gb306, 10, none⟩ = some (.int .u8 x307010_1) := (blk_cell BK306.out 10).trans rfl
                       have hcz54_11 : wr.cell? ⟨gb306, 11, none⟩ = some (.int .u8 x307011_1) := (blk_cell BK306.out 11).trans rfl
                       have hcz54_12 : wr.cell? ⟨gb306, 12, none⟩ = some (.string (⟨#[]⟩ : ByteArray)) := (blk_cell BK306.out 12).trans rfl
                       have hfz54_0 := blk_frozen BK306.out 0
                       have hfz54_1 := blk_frozen BK306.out 1
                       have hfz54_2 := blk_frozen BK306.out 2
                       have hfz54_3 := blk_frozen BK306.out 3
                       have hfz54_4 := blk_frozen BK306.out 4
                       have hfz54_5 := blk_frozen BK306.out 5
                       have hfz54_6 := blk_frozen BK306.out 6
                       have hfz54_7 := blk_frozen BK306.out 7
                       have hfz54_8 := blk_frozen BK306.out 8
                       have hfz54_9 := blk_frozen BK306.out 9
                       have hfz54_10 := blk_frozen BK306.out 10
                       have hfz54_11 := blk_frozen BK306.out 11
                       have hfz54_12 := blk_frozen BK306.out 12
                       go_wp2
                       go_roundg k1
                       case measure => have := HK1.out; omega
                       case rel => exact ⟨(wrap64 (x11_1 + 1)), (x307004_1), (x307005_1), (x307006_1), (bt a0 (ji34)), (x307008_1), (x307009_1), (x307010_1), (x307011_1), (by first | (with_reducible rfl) | (simp; done) | (simp [*]; done) | (refine congrArg (Value.int _) ?_; unfold wrap64; omega) | rfl), H', ⟨by have := HK1.out; omega⟩, ⟨by (with_reducible repeat (first | refine blk_drewN ?_ _ | refine blk_drew ?_ | refine blk_alloc ?_ _)); refine blk_far ?_ NB305_306.out _; (with_reducible repeat (first | refine blk_drewN ?_ _ | refine blk_drew ?_ | refine blk_alloc ?_ _)); exact BK305.out⟩, ⟨by (with_reducible repeat (first | refine blk_drewN ?_ _ | refine blk_drew ?_ | refine blk_alloc ?_ _)); refine blk_put (cs := #[.int .u64 t307, .int .u64 t310, .int .u8 (bt a0 0), .int .u8 (bt a0 (ji27)), .int .u8 x307004_1, .int .u8 x307005_1, .int .u8 x307006_1, .int .u8 x307007_1, .int .u8 x307008_1, .int .u8 x307009_1, .int .u8 x307010_1, .int .u8 x307011_1, .string (⟨#[]⟩ : ByteArray)]) ?_ 7 _ rfl; (with_reducible repeat (first | refine blk_drewN ?_ _ | refine blk_drew ?_ | refine blk_alloc ?_ _)); exact BK306.out⟩, ⟨by repeat (first | (with_reducible first | exact HB.out | apply below_alloc | apply pw_below_drewN | apply below_drew1 | refine below_set ?_ GE305.out | refine below_set ?_ GE306.out) | exact HB.out)⟩⟩
                      ·rw [if_neg c51] at H
                       have c51b0 : (x11_1 == 3) = false := beq_eq_false_iff_ne.mpr c51
                       have c51b1 : (x11_1 != 3) = true := bne_iff_ne.mpr c51
                       by_cases c55 : x11_1 = 4
                       ·rw [if_pos c55] at H
                        have c55b0 : (x11_1 == 4) = true := beq_iff_eq.mpr c55
                        have c55b1 : (x11_1 != 4) = false := bne_eq_false_iff_eq.mpr c55
                        clear c55
                        have c56e : x11_1 = 4 := by first | omega | (have h_ := eq_of_beq (show ((x11_1) == 4) = true from by first | assumption | (with_reducible assumption)); omega)
                        have c56l : x11_1 ≤ 4 := by omega
                        have c56g : 4 ≤ x11_1 := by omega
                        have c56t : (x11_1 : Int).toNat = 4 := by omega
                        clear c56e
                        have H' := Aside0.mk H
                        clear H
                        have p37 : 0 ≤ ((ji34) : Int) := of_decide_eq_true (by first | (with_reducible assumption) | assumption)
                        have q37 : (ji34) < (a0.size : Int) := of_decide_eq_true (by first | (with_reducible assumption) | assumption)
                        have hx37 := bt_at a0 (ji34)
                        replace p37 := eq_true p37
                        replace q37 := eq_true q37
                        have hnb57 := NB306_305.out
                        have hnc57 := NB305_306.out
                        have hcz58_0 : wr.cell? ⟨gb306, 0, none⟩ = some (.int .u64 t307) := (blk_cell BK306.out 0).trans rfl
                        have hcz58_1 : wr.cell? ⟨gb306, 1, none⟩ = some (.int .u64 t310) := (blk_cell BK306.out 1).trans rfl
                        have hcz58_2 : wr.cell? ⟨gb306, 2, none⟩ = some (.int .u8 (bt a0 0)) := (blk_cell BK306.out 2).trans rfl
                        have hcz58_3 : wr.cell? ⟨gb306, 3, none⟩ = some (.int .u8 (bt a0 (ji27))) := (blk_cell BK306.out 3).trans rfl
                        have hcz58_4 : wr.cell? ⟨gb306, 4, none⟩ = some (.int .u8 x307004_1) := (blk_cell BK306.out 4).trans rfl
                        have hcz58_5 : wr.cell? ⟨gb306, 5, none⟩ = some (.int .u8 x307005_1) := (blk_cell BK306.out 5).trans rfl
                        have hcz58_6 : wr.cell? ⟨gb306, 6, none⟩ = some (.int .u8 x307006_1) := (blk_cell BK306.out 6).trans rfl
                        have hcz58_7 : wr.cell? ⟨gb306, 7, none⟩ = some (.int .u8 x307007_1) := (blk_cell BK306.out 7).trans rfl
                        have hcz58_8 : wr.cell? ⟨gb306, 8, none⟩ = some (.int .u8 x307008_1) := (blk_cell BK306.out 8).trans rfl
                        have hcz58_9 : wr.cell? ⟨gb306, 9, none⟩ = some (.int .u8 x307009_1) := (blk_cell BK306.out 9).trans rfl
                        have hcz58_10 : wr.cell? ⟨gb306, 10, none⟩ = some (.int .u8 x307010_1) := (blk_cell BK306.out 10).trans rfl
                        have hcz58_11 : wr.cell? ⟨gb306, 11, none⟩ = some (.int .u8 x307011_1) := (blk_cell BK306.out 11).trans rfl
                        have hcz58_12 : wr.cell? ⟨gb306, 12, none⟩ = some (.string (⟨#[]⟩ : ByteArray)) := (blk_cell BK306.out 12).trans rfl
                        have hfz58_0 := blk_frozen BK306.out 0
                        have hfz58_1 := blk_frozen BK306.out 1
                        have hfz58_2 := blk_frozen BK306.out 2
                        have hfz58_3 := blk_frozen BK306.out 3
                        have hfz58_4 := blk_frozen BK306.out 4
                        have hfz58_5 := blk_frozen BK306.out 5
                        have hfz58_6 := blk_frozen BK306.out 6
                        have hfz58_7 := blk_frozen BK306.out 7
                        have hfz58_8 := blk_frozen BK306.out 8
                        have hfz58_9 := blk_frozen BK306.out 9
                        have hfz58_10 := blk_frozen BK306.out 10
                        have hfz58_11 := blk_frozen BK306.out 11
                        have hfz58_12 := blk_frozen BK306.out 12
                        go_wp2
                        go_roundg k1
                        case measure => have := HK1.out; omega
                        case rel => exact ⟨(wrap64 (x11_1 + 1)), (x307004_1), (x307005_1), (x307006_1), (x307007_1), (bt a0 (ji34)), (x307009_1), (x307010_1), (x307011_1), (by first | (with_reducible rfl) | (simp; done) | (simp [*]; done) | (refine congrArg (Value.int _) ?_; unfold wrap64; omega) | rfl), H', ⟨by have := HK1.out; omega⟩, ⟨by (with_reducible repeat (first | refine blk_drewN ?_ _ | refine blk_drew ?_ | refine blk_alloc ?_ _)); refine blk_far ?_ NB305_306.out _; (with_reducible repeat (first | refine blk_drewN ?_ _ | refine blk_drew ?_ | refine blk_alloc ?_ _)); exact BK305.out⟩, ⟨by (with_reducible repeat (first | refine blk_drewN ?_ _ | refine blk_drew ?_ | refine blk_alloc ?_ _)); refine blk_put (cs := #[.int .u64 t307, .int .u64 t310, .int .u8 (bt a0 0), .int .u8 (bt a0 (ji27)), .int .u8 x307004_1, .int .u8 x307005_1, .int .u8 x307006_1, .int .u8 x307007_1, .int .u8 x307008_1, .int .u8 x307009_1, .int .u8 x307010_1, .int .u8 x307011_1, .string (⟨#[]⟩ : ByteArray)]) ?_ 8 _ rfl; (with_reducible repeat (first | refine blk_drewN ?_ _ | refine blk_drew ?_ | refine blk_alloc ?_ _)); exact BK306.out⟩, ⟨by repeat (first | (with_reducible first | exact HB.out | apply below_alloc | apply pw_below_drewN | apply below_drew1 | refine below_set ?_ GE305.out | refine below_set ?_ GE306.out) | exact HB.out)⟩⟩
                       ·rw [if_neg c55] at H
                        have c55b0 : (x11_1 == 4) = false := beq_eq_false_iff_ne.mpr c55
                        have c55b1 : (x11_1 != 4) = true := bne_iff_ne.mpr c55
                        by_cases c59 : x11_1 = 5
                        ·rw [if_pos c59] at H
                         have c59b0 : (x11_1 == 5) = true := beq_iff_eq.mpr c59
                         have c59b1 : (x11_1 != 5) = false := bne_eq_false_iff_eq.mpr c59
                         clear c59
                         have c60e : x11_1 = 5 := by first | omega | (have h_ := eq_of_beq (show ((x11_1) == 5) = true from by first | assumption | (with_reducible assumption)); omega)
                         have c60l : x11_1 ≤ 5 := by omega
                         have c60g : 5 ≤ x11_1 := by omega
                         have c60t : (x11_1 : Int).toNat = 5 := by omega
                         clear c60e
                         have H' := Aside0.mk H
                         clear H
                         have p37 : 0 ≤ ((ji34) : Int) := of_decide_eq_true (by first | (with_reducible assumption) | assumption)
                         have q37 : (ji34) < (a0.size : Int) := of_decide_eq_true (by first | (with_reducible assumption) | assumption)
                         have hx37 := bt_at a0 (ji34)
                         replace p37 := eq_true p37
                         replace q37 := eq_true q37
                         have hnb61 := NB306_305.out
                         have hnc61 := NB305_306.out
                         have hcz62_0 : wr.cell? ⟨gb306, 0, none⟩ = some (.int .u64 t307) := (blk_cell BK306.out 0).trans rfl
                         have hcz62_1 : wr.cell? ⟨gb306, 1, none⟩ = some (.int .u64 t310) := (blk_cell BK306.out 1).trans rfl
                         have hcz62_2 : wr.cell? ⟨gb306, 2, none⟩ = some (.int .u8 (bt a0 0)) := (blk_cell BK306.out 2).trans rfl
                         have hcz62_3 : wr.cell? ⟨gb306, 3, none⟩ = some (.int .u8 (bt a0 (ji27))) := (blk_cell BK306.out 3).trans rfl
                         have hcz62_4 : wr.cell? ⟨gb306, 4, none⟩ = some (.int .u8 x307004_1) := (blk_cell BK306.out 4).trans rfl
                         have hcz62_5 : wr.cell? ⟨gb306, 5, none⟩ = some (.int .u8 x307005_1) := (blk_cell BK306.out 5).trans rfl
                         have hcz62_6 : wr.cell? ⟨gb306, 6, none⟩ = some (.int .u8 x307006_1) := (blk_cell BK306.out 6).trans rfl
                         have hcz62_7 : wr.cell? ⟨gb306, 7, none⟩ = some (.int .u8 x307007_1) := (blk_cell BK306.out 7).trans rfl
                         have hcz62_8 : wr.cell? ⟨gb306, 8, none⟩ = some (.int .u8 x307008_1) := (blk_cell BK306.out 8).trans rfl
                         have hcz62_9 : wr.cell? ⟨gb306, 9, none⟩ = some (.int .u8 x307009_1) := (blk_cell BK306.out 9).trans rfl
                         have hcz62_10 : wr.cell? ⟨gb306, 10, none⟩ = some (.int .u8 x307010_1) := (blk_cell BK306.out 10).trans rfl
                         have hcz62_11 : wr.cell? ⟨gb306, 11, none⟩ = some (.int .u8 x307011_1) := (blk_cell BK306.out 11).trans rfl
                         have hcz62_12 : wr.cell? ⟨gb306, 12, none⟩ = some (.string (⟨#[]⟩ : ByteArray)) := (blk_cell BK306.out 12).trans rfl
                         have hfz62_0 := blk_frozen BK306.out 0
                         have hfz62_1 := blk_frozen BK306.out 1
                         have hfz62_2 := blk_frozen BK306.out 2
                         have hfz62_3 := blk_frozen BK306.out 3
                         have hfz62_4 := blk_frozen BK306.out 4
                         have hfz62_5 := blk_frozen BK306.out 5
                         have hfz62_6 := blk_frozen BK306.out 6
                         have hfz62_7 := blk_frozen BK306.out 7
                         have hfz62_8 := blk_frozen BK306.out 8
                         have hfz62_9 := blk_frozen BK306.out 9
                         have hfz62_10 := blk_frozen BK306.out 10
                         have hfz62_11 := blk_frozen BK306.out 11
                         have hfz62_12 := blk_frozen BK306.out 12
                         go_wp2
                         go_roundg k1
                         case measure => have := HK1.out; omega
                         case rel => exact ⟨(wrap64 (x11_1 + 1)), (x307004_1), (x307005_1), (x307006_1), (x307007_1), (x307008_1), (bt a0 (ji34)), (x307010_1), (x307011_1), (by first | (with_reducible rfl) | (simp; done) | (simp [*]; done) | (refine congrArg (Value.int _) ?_; unfold wrap64; omega) | rfl), H', ⟨by have := HK1.out; omega⟩, ⟨by (with_reducible repeat (first | refine blk_drewN ?_ _ | refine blk_drew ?_ | refine blk_alloc ?_ _)); refine blk_far ?_ NB305_306.out _; (with_reducible repeat (first | refine blk_drewN ?_ _ | refine blk_drew ?_ | refine blk_alloc ?_ _)); exact BK305.out⟩, ⟨by (with_reducible repeat (first | refine blk_drewN ?_ _ | refine blk_drew ?_ | refine blk_alloc ?_ _)); refine blk_put (cs := #[.int .u64 t307, .int .u64 t310, .int .u8 (bt a0 0), .int .u8 (bt a0 (ji27)), .int .u8 x307004_1, .int .u8 x307005_1, .int .u8 x307006_1, .int .u8 x307007_1, .int .u8 x307008_1, .int .u8 x307009_1, .int .u8 x307010_1, .int .u8 x307011_1, .string (⟨#[]⟩ : ByteArray)]) ?_ 9 _ rfl; (with_reducible repeat (first | refine blk_drewN ?_ _ | refine blk_drew ?_ | refine blk_alloc ?_ _)); exact BK306.out⟩, ⟨by repeat (first | (with_reducible first | exact HB.out | apply below_alloc | apply pw_below_drewN | apply below_drew1 | refine below_set ?_ GE305.out | refine below_set ?_ GE306.out) | exact HB.out)⟩⟩
                        ·rw [if_neg c59] at H
                         have c59b0 : (x11_1 == 5) = false := beq_eq_false_iff_ne.mpr c59
                         have c59b1 : (x11_1 != 5) = true := bne_iff_ne.mpr c59
                         by_cases c63 : x11_1 = 6
                         ·rw [if_pos c63] at H
                          have c63b0 : (x11_1 == 6) = true := beq_iff_eq.mpr c63
                          have c63b1 : (x11_1 != 6) = false := bne_eq_false_iff_eq.mpr c63
                          clear c63
                          have c64e : x11_1 = 6 := by first | omega | (have h_ := eq_of_beq (show ((x11_1) == 6) = true from by first | assumption | (with_reducible assumption)); omega)
                          have c64l : x11_1 ≤ 6 := by omega
                          have c64g : 6 ≤ x11_1 := by omega
                          have c64t : (x11_1 : Int).toNat = 6 := by omega
                          clear c64e
                          have H' := Aside0.mk H
                          clear H
                          have p37 : 0 ≤ ((ji34) : Int) := of_decide_eq_true (by first | (with_reducible assumption) | assumption)
                          have q37 : (ji34) < (a0.size : Int) := of_decide_eq_true (by first | (with_reducible assumption) | assumption)
                          have hx37 := bt_at a0 (ji34)
                          replace p37 := eq_true p37
                          replace q37 := eq_true q37
                          have hnb65 := NB306_305.out
                          have hnc65 := NB305_306.out
                          have hcz66_0 : wr.cell? ⟨gb306, 0, none⟩ = some (.int .u64 t307) := (blk_cell BK306.out 0).trans rfl
                          have hcz66_1 : wr.cell? ⟨gb306, 1, none⟩ = some (.int .u64 t310) := (blk_cell BK306.out 1).trans rfl
                          have hcz66_2 : wr.cell? ⟨gb306, 2, none⟩ = some (.int .u8 (bt a0 0)) := (blk_cell BK306.out 2).trans rfl
                          have hcz66_3 : wr.cell? ⟨gb306, 3, none⟩ = some (.int .u8 (bt a0 (ji27))) := (blk_cell BK306.out 3).trans rfl
                          have hcz66_4 : wr.cell? ⟨gb306, 4, none⟩ = some (.int .u8 x307004_1) := (blk_cell BK306.out 4).trans rfl
                          have hcz66_5 : wr.cell? ⟨gb306, 5, none⟩ = some (.int .u8 x307005_1) := (blk_cell BK306.out 5).trans rfl
                          have hcz66_6 : wr.cell? ⟨gb306, 6, none⟩ = some (.int .u8 x307006_1) := (blk_cell BK306.out 6).trans rfl
                          have hcz66_7 : wr.cell? ⟨gb306, 7, none⟩ = some (.int .u8 x307007_1) := (blk_cell BK306.out 7).trans rfl
                          have hcz66_8 : wr.cell? ⟨gb306, 8, none⟩ = some (.int .u8 x307008_1) := (blk_cell BK306.out 8).trans rfl
                          have hcz66_9 : wr.cell? ⟨gb306, 9, none⟩ = some (.int .u8 x307009_1) := (blk_cell BK306.out 9).trans rfl
                          have hcz66_10 : wr.cell? ⟨gb306, 10, none⟩ = some (.int .u8 x307010_1) := (blk_cell BK306.out 10).trans rfl
                          have hcz66_11 : wr.cell? ⟨gb306, 11, none⟩ = some (.int .u8 x307011_1) := (blk_cell BK306.out 11).trans rfl
                          have hcz66_12 : wr.cell? ⟨gb306, 12, none⟩ = some (.string (⟨#[]⟩ : ByteArray)) := (blk_cell BK306.out 12).trans rfl
                          have hfz66_0 := blk_frozen BK306.out 0
                          have hfz66_1 := blk_frozen BK306.out 1
                          have hfz66_2 := blk_frozen BK306.out 2
                          have hfz66_3 := blk_frozen BK306.out 3
                          have hfz66_4 := blk_frozen BK306.out 4
                          have hfz66_5 := blk_frozen BK306.out 5
                          have hfz66_6 := blk_frozen BK306.out 6
                          have hfz66_7 := blk_frozen BK306.out 7
                          have hfz66_8 := blk_frozen BK306.out 8
                          have hfz66_9 := blk_frozen BK306.out 9
                          have hfz66_10 := blk_frozen BK306.out 10
                          have hfz66_11 := blk_frozen BK306.out 11
                          have hfz66_12 := blk_frozen BK306.out 12
                          go_wp2
                          go_roundg k1
                          case measure => have := HK1.out; omega
                          case rel => exact ⟨(wrap64 (x11_1 + 1)), (x307004_1), (x307005_1), (x307006_1), (x307007_1), (x307008_1), (x307009_1), (bt a0 (ji34)), (x307011_1), (by first | (with_reducible rfl) | (simp; done) | (simp [*]; done) | (refine congrArg (Value.int _) ?_; unfold wrap64; omega) | rfl), H', ⟨by have := HK1.out; omega⟩, ⟨by (with_reducible repeat (first | refine blk_drewN ?_ _ | refine blk_drew ?_ | refine blk_alloc ?_ _)); refine blk_far ?_ NB305_306.out _; (with_reducible repeat (first | refine blk_drewN ?_ _ | refine blk_drew ?_ | refine blk_alloc ?_ _)); exact BK305.out⟩, ⟨by (with_reducible repeat (first | refine blk_drewN ?_ _ | refine blk_drew ?_ | refine blk_alloc ?_ _)); refine blk_put (cs := #[.int .u64 t307, .int .u64 t310, .int .u8 (bt a0 0), .int .u8 (bt a0 (ji27)), .int .u8 x307004_1, .int .u8 x307005_1, .int .u8 x307006_1, .int .u8 x307007_1, .int .u8 x307008_1, .int .u8 x307009_1, .int .u8 x307010_1, .int .u8 x307011_1, .string (⟨#[]⟩ : ByteArray)]) ?_ 10 _ rfl; (with_reducible repeat (first | refine blk_drewN ?_ _ | refine blk_drew ?_ | refine blk_alloc ?_ _)); exact BK306.out⟩, ⟨by repeat (first | (with_reducible first | exact HB.out | apply below_alloc | apply pw_below_drewN | apply below_drew1 | refine below_set ?_ GE305.out | refine below_set ?_ GE306.out) | exact HB.out)⟩⟩
                         ·rw [if_neg c63] at H
                          have c63b0 : (x11_1 == 6) = false := beq_eq_false_iff_ne.mpr c63
                          have c63b1 : (x11_1 != 6) = true := bne_iff_ne.mpr c63
                          by_cases c67 : x11_1 = 7
                          ·rw [if_pos c67] at H
                           have c67b0 : (x11_1 == 7) = true := beq_iff_eq.mpr c67
                           have c67b1 : (x11_1 != 7) = false := bne_eq_false_iff_eq.mpr c67
                           clear c67
                           have c68e : x11_1 = 7 := by first | omega | (have h_ := eq_of_beq (show ((x11_1) == 7) = true from by first | assumption | (with_reducible assumption)); omega)
                           have c68l : x11_1 ≤ 7 := by omega
                           have c68g : 7 ≤ x11_1 := by omega
                           have c68t : (x11_1 : Int).toNat = 7 := by omega
                           clear c68e
                           have H' := Aside0.mk H
                           clear H
                           have p37 : 0 ≤ ((ji34) : Int) := of_decide_eq_true (by first | (with_reducible assumption) | assumption)
                           have q37 : (ji34) < (a0.size : Int) := of_decide_eq_true (by first | (with_reducible assumption) | assumption)
                           have hx37 := bt_at a0 (ji34)
                           replace p37 := eq_true p37
                           replace q37 := eq_true q37
                           have hnb69 := NB306_305.out
                           have hnc69 := NB305_306.out
                           have hcz70_0 : wr.cell? ⟨gb306, 0, none⟩ = some (.int .u64 t307) := (blk_cell BK306.out 0).trans rfl
                           have hcz70_1 : wr.cell? ⟨gb306, 1, none⟩ = some (.int .u64 t310) := (blk_cell BK306.out 1).trans rfl
                           have hcz70_2 : wr.cell? ⟨gb306, 2, none⟩ = some (.int .u8 (bt a0 0)) := (blk_cell BK306.out 2).trans rfl
                           have hcz70_3 : wr.cell? ⟨gb306, 3, none⟩ = some (.int .u8 (bt a0 (ji27))) := (blk_cell BK306.out 3).trans rfl
                           have hcz70_4 : wr.cell? ⟨gb306, 4, none⟩ = some (.int .u8 x307004_1) := (blk_cell BK306.out 4).trans rfl
                           have hcz70_5 : wr.cell? ⟨gb306, 5, none⟩ = some (.int .u8 x307005_1) := (blk_cell BK306.out 5).trans rfl
                           have hcz70_6 : wr.cell? ⟨gb306, 6, none⟩ = some (.int .u8 x307006_1) := (blk_cell BK306.out 6).trans rfl
                           have hcz70_7 : wr.cell? ⟨gb306, 7, none⟩ = some (.int .u8 x307007_1) := (blk_cell BK306.out 7).trans rfl
                           have hcz70_8 : wr.cell? ⟨gb306, 8, none⟩ = some (.int .u8 x307008_1) := (blk_cell BK306.out 8).trans rfl
                           have hcz70_9 : wr.cell? ⟨gb306, 9, none⟩ = some (.int .u8 x307009_1) := (blk_cell BK306.out 9).trans rfl
                           have hcz70_10 : wr.cell? ⟨gb306, 10, none⟩ = some (.int .u8 x307010_1) := (blk_cell BK306.out 10).trans rfl
                           have hcz70_11 : wr.cell? ⟨gb306, 11, none⟩ = some (.int .u8 x307011_1) := (blk_cell BK306.out 11).trans rfl
                           have hcz70_12 : wr.cell? ⟨gb306, 12, none⟩ = some (.string (⟨#[]⟩ : ByteArray)) := (blk_cell BK306.out 12).trans rfl
                           have hfz70_0 := blk_frozen BK306.out 0
                           have hfz70_1 := blk_frozen BK306.out 1
                           have hfz70_2 := blk_frozen BK306.out 2
                           have hfz70_3 := blk_frozen BK306.out 3
                           have hfz70_4 := blk_frozen BK306.out 4
                           have hfz70_5 := blk_frozen BK306.out 5
                           have hfz70_6 := blk_frozen BK306.out 6
                           have hfz70_7 := blk_frozen BK306.out 7
                           have hfz70_8 := blk_frozen BK306.out 8
                           have hfz70_9 := blk_frozen BK306.out 9
                           have hfz70_10 := blk_frozen BK306.out 10
                           have hfz70_11 := blk_frozen BK306.out 11
                           have hfz70_12 := blk_frozen BK306.out 12
                           go_wp2
                           go_roundg k1
                           case measure => have := HK1.out; omega
                           case rel => exact ⟨(wrap64 (x11_1 + 1)), (x307004_1), (x307005_1), (x307006_1), (x307007_1), (x307008_1), (x307009_1), (x307010_1), (bt a0 (ji34)), (by first | (with_reducible rfl) | (simp; done) | (simp [*]; done) | (refine congrArg (Value.int _) ?_; unfold wrap64; omega) | rfl), H', ⟨by have := HK1.out; omega⟩, ⟨by (with_reducible repeat (first | refine blk_drewN ?_ _ | refine blk_drew ?_ | refine blk_alloc ?_ _)); refine blk_far ?_ NB305_306.out _; (with_reducible repeat (first | refine blk_drewN ?_ _ | refine blk_drew ?_ | refine blk_alloc ?_ _)); exact BK305.out⟩, ⟨by (with_reducible repeat (first | refine blk_drewN ?_ _ | refine blk_drew ?_ | refine blk_alloc ?_ _)); refine blk_put (cs := #[.int .u64 t307, .int .u64 t310, .int .u8 (bt a0 0), .int .u8 (bt a0 (ji27)), .int .u8 x307004_1, .int .u8 x307005_1, .int .u8 x307006_1, .int .u8 x307007_1, .int .u8 x307008_1, .int .u8 x307009_1, .int .u8 x307010_1, .int .u8 x307011_1, .string (⟨#[]⟩ : ByteArray)]) ?_ 11 _ rfl; (with_reducible repeat (first | refine blk_drewN ?_ _ | refine blk_drew ?_ | refine blk_alloc ?_ _)); exact BK306.out⟩, ⟨by repeat (first | (with_reducible first | exact HB.out | apply below_alloc | apply pw_below_drewN | apply below_drew1 | refine below_set ?_ GE305.out | refine below_set ?_ GE306.out) | exact HB.out)⟩⟩
                          ·rw [if_neg c67] at H
                           exact absurd H (by simp)
                  ·rw [if_neg c38] at H
                   exact absurd H (by simp)
                 ·rw [if_neg c36] at H
                  exact absurd H (by simp)
                ·rw [if_neg c35] at H
                 exact absurd H (by simp)
               ·rw [if_neg c33] at H
                have c33b0 : decide (x11_1 < 8) = false := decide_eq_false c33
                clear c33
                have H' := Aside0.mk H
                clear H
                go_wp2
                go_meet
                case rel => exact ⟨_, (wrap64 (ji27 + 9)), (0), (0), (0), (0), (0), (0), (0), (0), (0), (0), (0), (0), ((⟨#[]⟩ : ByteArray)), ((bt a0 (ji27))), (x307004_1), (x307005_1), (x307006_1), (x307007_1), (x307008_1), (x307009_1), (x307010_1), (x307011_1), (by first | (with_reducible rfl) | (simp; done) | (simp only [← hji27] <;> (first | rfl | simp)) | (simp [*]; done) | (refine congrArg (Value.int _) ?_; unfold wrap64; omega) | rfl), H', ⟨by have := HK1.out; first | omega | exact Nat.le_refl _⟩, ⟨by (with_reducible repeat (first | refine blk_drewN ?_ _ | refine blk_drew ?_ | refine blk_alloc ?_ _)); exact BK305.out⟩, ⟨by (with_reducible repeat (first | refine blk_drewN ?_ _ | refine blk_drew ?_ | refine blk_alloc ?_ _)); exact BK306.out⟩, ⟨by repeat (first | (with_reducible first | exact HB.out | apply below_alloc | apply pw_below_drewN | apply below_drew1 | refine below_set ?_ GE305.out | refine below_set ?_ GE306.out) | exact HB.out)⟩⟩
            ·rw [if_neg c29] at H
             exact absurd H (by simp)
           ·rw [if_neg c28] at H
            exact absurd H (by simp)
         ·rw [if_neg c23] at H
          have c23b0 : ((bt a0 0) == 3) = false := beq_eq_false_iff_ne.mpr c23
          have c23b1 : ((bt a0 0) != 3) = true := bne_iff_ne.mpr c23
          (first | rw [c23b0] | (simp only [i64_w, i32_w]; rw [c23b0]) | skip)
          have H' := Aside0.mk H
          clear H
          go_wp2
          go_meet
          case rel => exact ⟨_, (wrap64 ((ji10) + t311)), (0), (0), (0), (0), (0), (0), (0), (0), (0), (0), (0), (0), ((⟨#[]⟩ : ByteArray)), (0), (0), (0), (0), (0), (0), (0), (0), (0), (by first | (with_reducible rfl) | (simp; done) | (simp only [← hji10] <;> (first | rfl | simp)) | (simp [*]; done) | (refine congrArg (Value.int _) ?_; unfold wrap64; omega) | rfl), H', ⟨by first | omega | exact Nat.le_refl _⟩, ⟨by (with_reducible repeat (first | refine blk_drewN ?_ _ | refine blk_drew ?_ | refine blk_alloc ?_ _)); refine blk_far ?_ NB305_306.out _; (with_reducible repeat (first | refine blk_drewN ?_ _ | refine blk_drew ?_ | refine blk_alloc ?_ _)); refine blk_far ?_ NB305_306.out _; (with_reducible repeat (first | refine blk_drewN ?_ _ | refine blk_drew ?_ | refine blk_alloc ?_ _)); exact BK305.out⟩, ⟨by (with_reducible repeat (first | refine blk_drewN ?_ _ | refine blk_drew ?_ | refine blk_alloc ?_ _)); refine blk_put (cs := #[.int .u64 t307, .int .u64 0, .int .u8 (bt a0 0), .int .u8 0, .int .u8 0, .int .u8 0, .int .u8 0, .int .u8 0, .int .u8 0, .int .u8 0, .int .u8 0, .int .u8 0, .string (⟨#[]⟩ : ByteArray)]) ?_ 1 _ rfl; (with_reducible repeat (first | refine blk_drewN ?_ _ | refine blk_drew ?_ | refine blk_alloc ?_ _)); refine blk_put (cs := #[.int .u64 0, .int .u64 0, .int .u8 (bt a0 0), .int .u8 0, .int .u8 0, .int .u8 0, .int .u8 0, .int .u8 0, .int .u8 0, .int .u8 0, .int .u8 0, .int .u8 0, .string (⟨#[]⟩ : ByteArray)]) ?_ 0 _ rfl; (with_reducible repeat (first | refine blk_drewN ?_ _ | refine blk_drew ?_ | refine blk_alloc ?_ _)); exact BK306.out⟩, ⟨by repeat (first | (with_reducible first | exact HB.out | apply below_alloc | apply pw_below_drewN | apply below_drew1 | refine below_set ?_ GE305.out | refine below_set ?_ GE306.out) | exact HB.out)⟩⟩
        case rest =>
         clear HC15
         try clear c2
         try clear p2
         try clear c3
         try clear p3
         try clear q3
         try clear hx3
         try clear c4
         try clear c5
         try clear c6
         try clear p6
         try clear q6
         try clear c23
         try clear c23b0
         try clear c23b1
         try clear c28
         try clear c29
         try clear p30
         try clear q30
         try clear c33
         try clear c33b0
         try clear c35
         try clear c35b0
         try clear c36
         try clear c36b0
         try clear p37
         try clear q37
         try clear hx37
         try clear c38
         try clear c38b0
         try clear c39
         try clear c39b0
         try clear c39b1
         try clear c40
         try clear c41
         try clear c43
         try clear c43b0
         try clear c43b1
         try clear c44
         try clear c45
         try clear c47
         try clear c47b0
         try clear c47b1
         try clear c48
         try clear c49
         try clear c51
         try clear c51b0
         try clear c51b1
         try clear c52
         try clear c53
         try clear c55
         try clear c55b0
         try clear c55b1
         try clear c56
         try clear c57
         try clear c59
         try clear c59b0
         try clear c59b1
         try clear c60
         try clear c61
         try clear c63
         try clear c63b0
         try clear c63b1
         try clear c64
         try clear p64
         try clear c65
         try clear c67
         try clear c67b0
         try clear c67b1
         try clear c68
         try clear c69
         try clear hcz19_12
         try clear hcz19_2
         try clear hcz19_3
         try clear hcz19_4
         try clear hcz19_5
         try clear hcz19_6
         try clear hcz19_7
         try clear hcz19_8
         try clear hcz19_9
         try clear hcz22_0
         try clear hcz22_1
         try clear hcz22_10
         try clear hcz22_11
         try clear hcz22_12
         try clear hcz22_2
         try clear hcz22_3
         try clear hcz22_4
         try clear hcz22_5
         try clear hcz22_6
         try clear hcz22_7
         try clear hcz22_8
         try clear hcz22_9
         try clear hcz26_0
         try clear hcz26_1
         try clear hcz26_10
         try clear hcz26_11
         try clear hcz26_12
         try clear hcz26_2
         try clear hcz26_3
         try clear hcz26_4
         try clear hcz26_5
         try clear hcz26_6
         try clear hcz26_7
         try clear hcz26_8
         try clear hcz26_9
         try clear hcz32_0
         try clear hcz32_1
         try clear hcz32_10
         try clear hcz32_11
         try clear hcz32_12
         try clear hcz32_2
         try clear hcz32_3
         try clear hcz32_4
         try clear hcz32_5
         try clear hcz32_6
         try clear hcz32_7
         try clear hcz32_8
         try clear hcz32_9
         try clear hcz42_0
         try clear hcz42_1
         try clear hcz42_10
         try clear hcz42_11
         try clear hcz42_12
         try clear hcz42_2
         try clear hcz42_3
         try clear hcz42_4
         try clear hcz42_5
         try clear hcz42_6
         try clear hcz42_7
         try clear hcz42_8
         try clear hcz42_9
         try clear hcz46_0
         try clear hcz46_1
         try clear hcz46_10
         try clear hcz46_11
         try clear hcz46_12
         try clear hcz46_2
         try clear hcz46_3
         try clear hcz46_4
         try clear hcz46_5
         try clear hcz46_6
         try clear hcz46_7
         try clear hcz46_8
         try clear hcz46_9
         try clear hcz4_0
         try clear hcz4_1
         try clear hcz4_10
         try clear hcz4_11
         try clear hcz4_12
         try clear hcz4_2
         try clear hcz4_3
         try clear hcz4_4
         try clear hcz4_5
         try clear hcz4_6
         try clear hcz4_7
         try clear hcz4_8
         try clear hcz4_9
         try clear hcz50_0
         try clear hcz50_1
         try clear hcz50_10
         try clear hcz50_11
         try clear hcz50_12
         try clear hcz50_2
         try clear hcz50_3
         try clear hcz50_4
         try clear hcz50_5
         try clear hcz50_6
         try clear hcz50_7
         try clear hcz50_8
         try clear hcz50_9
         try clear hcz54_0
         try clear hcz54_1
         try clear hcz54_10
         try clear hcz54_11
         try clear hcz54_12
         try clear hcz54_2
         try clear hcz54_3
         try clear hcz54_4
         try clear hcz54_5
         try clear hcz54_6
         try clear hcz54_7
         try clear hcz54_8
         try clear hcz54_9
         try clear hcz58_0
         try clear hcz58_1
         try clear hcz58_10
         try clear hcz58_11
         try clear hcz58_12
         try clear hcz58_2
         try clear hcz58_3
         try clear hcz58_4
         try clear hcz58_5
         try clear hcz58_6
         try clear hcz58_7
         try clear hcz58_8
         try clear hcz58_9
         try clear hcz62_0
         try clear hcz62_1
         try clear hcz62_10
         try clear hcz62_11
         try clear hcz62_12
         try clear hcz62_2
         try clear hcz62_3
         try clear hcz62_4
         try clear hcz62_5
         try clear hcz62_6
         try clear hcz62_7
         try clear hcz62_8
         try clear hcz62_9
         try clear hcz66_0
         try clear hcz66_1
         try clear hcz66_10
         try clear hcz66_11
         try clear hcz66_12
         try clear hcz66_2
         try clear hcz66_3
         try clear hcz66_4
         try clear hcz66_5
         try clear hcz66_6
         try clear hcz66_7
         try clear hcz66_8
         try clear hcz66_9
         try clear hcz70_0
         try clear hcz70_1
         try clear hcz70_10
         try clear hcz70_11
         try clear hcz70_12
         try clear hcz70_2
         try clear hcz70_3
         try clear hcz70_4
         try clear hcz70_5
         try clear hcz70_6
         try clear hcz70_7
         try clear hcz70_8
         try clear hcz70_9
         try clear hfz19_0
         try clear hfz19_1
         try clear hfz19_10
         try clear hfz19_11
         try clear hfz19_12
         try clear hfz19_2
         try clear hfz19_3
         try clear hfz19_4
         try clear hfz19_5
         try clear hfz19_6
         try clear hfz19_7
         try clear hfz19_8
         try clear hfz19_9
         try clear hfz22_0
         try clear hfz22_1
         try clear hfz22_10
         try clear hfz22_11
         try clear hfz22_12
         try clear hfz22_2
         try clear hfz22_3
         try clear hfz22_4
         try clear hfz22_5
         try clear hfz22_6
         try clear hfz22_7
         try clear hfz22_8
         try clear hfz22_9
         try clear hfz26_0
         try clear hfz26_1
         try clear hfz26_10
         try clear hfz26_11
         try clear hfz26_12
         try clear hfz26_2
         try clear hfz26_3
         try clear hfz26_4
         try clear hfz26_5
         try clear hfz26_6
         try clear hfz26_7
         try clear hfz26_8
         try clear hfz26_9
         try clear hfz32_0
         try clear hfz32_1
         try clear hfz32_10
         try clear hfz32_11
         try clear hfz32_12
         try clear hfz32_2
         try clear hfz32_3
         try clear hfz32_4
         try clear hfz32_5
         try clear hfz32_6
         try clear hfz32_7
         try clear hfz32_8
         try clear hfz32_9
         try clear hfz42_0
         try clear hfz42_1
         try clear hfz42_10
         try clear hfz42_11
         try clear hfz42_12
         try clear hfz42_2
         try clear hfz42_3
         try clear hfz42_4
         try clear hfz42_5
         try clear hfz42_6
         try clear hfz42_7
         try clear hfz42_8
         try clear hfz42_9
         try clear hfz46_0
         try clear hfz46_1
         try clear hfz46_10
         try clear hfz46_11
         try clear hfz46_12
         try clear hfz46_2
         try clear hfz46_3
         try clear hfz46_4
         try clear hfz46_5
         try clear hfz46_6
         try clear hfz46_7
         try clear hfz46_8
         try clear hfz46_9
         try clear hfz4_0
         try clear hfz4_1
         try clear hfz4_10
         try clear hfz4_11
         try clear hfz4_12
         try clear hfz4_2
         try clear hfz4_3
         try clear hfz4_4
         try clear hfz4_5
         try clear hfz4_6
         try clear hfz4_7
         try clear hfz4_8
         try clear hfz4_9
         try clear hfz50_0
         try clear hfz50_1
         try clear hfz50_10
         try clear hfz50_11
         try clear hfz50_12
         try clear hfz50_2
         try clear hfz50_3
         try clear hfz50_4
         try clear hfz50_5
         try clear hfz50_6
         try clear hfz50_7
         try clear hfz50_8
         try clear hfz50_9
         try clear hfz54_0
         try clear hfz54_1
         try clear hfz54_10
         try clear hfz54_11
         try clear hfz54_12
         try clear hfz54_2
         try clear hfz54_3
         try clear hfz54_4
         try clear hfz54_5
         try clear hfz54_6
         try clear hfz54_7
         try clear hfz54_8
         try clear hfz54_9
         try clear hfz58_0
         try clear hfz58_1
         try clear hfz58_10
         try clear hfz58_11
         try clear hfz58_12
         try clear hfz58_2
         try clear hfz58_3
         try clear hfz58_4
         try clear hfz58_5
         try clear hfz58_6
         try clear hfz58_7
         try clear hfz58_8
         try clear hfz58_9
         try clear hfz62_0
         try clear hfz62_1
         try clear hfz62_10
         try clear hfz62_11
         try clear hfz62_12
         try clear hfz62_2
         try clear hfz62_3
         try clear hfz62_4
         try clear hfz62_5
         try clear hfz62_6
         try clear hfz62_7
         try clear hfz62_8
         try clear hfz62_9
         try clear hfz66_0
         try clear hfz66_1
         try clear hfz66_10
         try clear hfz66_11
         try clear hfz66_12
         try clear hfz66_2
         try clear hfz66_3
         try clear hfz66_4
         try clear hfz66_5
         try clear hfz66_6
         try clear hfz66_7
         try clear hfz66_8
         try clear hfz66_9
         try clear hfz70_0
         try clear hfz70_1
         try clear hfz70_10
         try clear hfz70_11
         try clear hfz70_12
         try clear hfz70_2
         try clear hfz70_3
         try clear hfz70_4
         try clear hfz70_5
         try clear hfz70_6
         try clear hfz70_7
         try clear hfz70_8
         try clear hfz70_9
         try clear p30
         try clear p37
         try clear p6
         try clear q30
         try clear q37
         try clear q6
         obtain ⟨kq, x10_14, x306000_14, x306001_14, x306002_14, x306003_14, x306004_14, x306005_14, x306006_14, x306007_14, x306008_14, x306009_14, x306010_14, x306011_14, x306012_14, x307003_14, x307004_14, x307005_14, x307006_14, x307007_14, x307008_14, x307009_14, x307010_14, x307011_14, rfl, HA, HJ14, BK305, BK306, HB⟩ := hcut
         cases kq with
         | zero => exact absurd HA.out (by simp [wapentakeref04_Read.j1])
         | succ kj14 =>
          have H := HA.out
          clear HA
          simp only [wapentakeref04_Read.j1] at H
          have HC71 := Aside0.mk H
          clear H
          go_upto_region 22 with (fail)
          go_cut [87] (fun v87 wc => ∃ (kq : Nat) (x87_70 : Bool), v87 = .bool x87_70 ∧ Aside0 (wapentakeref04_Read.j2 kq a0 x10_14 x87_70 t307 t310 (bt a0 0) x307003_14 x307004_14 x307005_14 x307006_14 x307007_14 x307008_14 x307009_14 x307010_14 x307011_14 (⟨#[]⟩ : ByteArray) = some (r1, r2, r3, r4, r5, r6, r7, r8, r9, r10, r11, r12, r13, r14)) ∧ Aside0 (kq ≤ kj14) ∧ Aside0 (wc.heap[gb305]? = some (.cells #[.int .u64 x306000_14, .int .u64 x306001_14, .int .u8 x306002_14, .int .u8 x306003_14, .int .u8 x306004_14, .int .u8 x306005_14, .int .u8 x306006_14, .int .u8 x306007_14, .int .u8 x306008_14, .int .u8 x306009_14, .int .u8 x306010_14, .int .u8 x306011_14, .string x306012_14] 27 (0, 0))) ∧ Aside0 (wc.heap[gb306]? = some (.cells #[.int .u64 t307, .int .u64 t310, .int .u8 (bt a0 0), .int .u8 x307003_14, .int .u8 x307004_14, .int .u8 x307005_14, .int .u8 x307006_14, .int .u8 x307007_14, .int .u8 x307008_14, .int .u8 x307009_14, .int .u8 x307010_14, .int .u8 x307011_14, .string (⟨#[]⟩ : ByteArray)] 27 (0, 0))) ∧ Aside0 (Below w.heap.size w wc))
          case first =>
           have H := HC71.out
           clear HC71
           by_cases c72 : (bt a0 0) ≥ 2
           ·rw [if_pos c72] at H
            have c72b0 : decide (2 ≤ (bt a0 0)) = true := decide_eq_true c72
            clear c72
            (first | rw [c72b0] | (simp only [i64_w, i32_w]; rw [c72b0]) | skip)
            have H' := Aside0.mk H
            clear H
            have hnb73 := NB306_305.out
            have hnc73 := NB305_306.out
            have hcz74_0 : wc.cell? ⟨gb306, 0, none⟩ = some (.int .u64 t307) := (blk_cell BK306.out 0).trans rfl
            have hcz74_1 : wc.cell? ⟨gb306, 1, none⟩ = some (.int .u64 t310) := (blk_cell BK306.out 1).trans rfl
            have hcz74_2 : wc.cell? ⟨gb306, 2, none⟩ = some (.int .u8 (bt a0 0)) := (blk_cell BK306.out 2).trans rfl
            have hcz74_3 : wc.cell? ⟨gb306, 3, none⟩ = some (.int .u8 x307003_14) := (blk_cell BK306.out 3).trans rfl
            have hcz74_4 : wc.cell? ⟨gb306, 4, none⟩ = some (.int .u8 x307004_14) := (blk_cell BK306.out 4).trans rfl
            have hcz74_5 : wc.cell? ⟨gb306, 5, none⟩ = some (.int .u8 x307005_14) := (blk_cell BK306.out 5).trans rfl
            have hcz74_6 : wc.cell? ⟨gb306, 6, none⟩ = some (.int .u8 x307006_14) := (blk_cell BK306.out 6).trans rfl
            have hcz74_7 : wc.cell? ⟨gb306, 7, none⟩ = some (.int .u8 x307007_14) := (blk_cell BK306.out 7).trans rfl
            have hcz74_8 : wc.cell? ⟨gb306, 8, none⟩ = some (.int .u8 x307008_14) := (blk_cell BK306.out 8).trans rfl
            have hcz74_9 : wc.cell? ⟨gb306, 9, none⟩ = some (.int .u8 x307009_14) := (blk_cell BK306.out 9).trans rfl
            have hcz74_10 : wc.cell? ⟨gb306, 10, none⟩ = some (.int .u8 x307010_14) := (blk_cell BK306.out 10).trans rfl
            have hcz74_11 : wc.cell? ⟨gb306, 11, none⟩ = some (.int .u8 x307011_14) := (blk_cell BK306.out 11).trans rfl
            have hcz74_12 : wc.cell? ⟨gb306, 12, none⟩ = some (.string (⟨#[]⟩ : ByteArray)) := (blk_cell BK306.out 12).trans rfl
            have hfz74_0 := blk_frozen BK306.out 0
            have hfz74_1 := blk_frozen BK306.out 1
            have hfz74_2 := blk_frozen BK306.out 2
            have hfz74_3 := blk_frozen BK306.out 3
            have hfz74_4 := blk_frozen BK306.out 4
            have hfz74_5 := blk_frozen BK306.out 5
            have hfz74_6 := blk_frozen BK306.out 6
            have hfz74_7 := blk_frozen BK306.out 7
            have hfz74_8 := blk_frozen BK306.out 8
            have hfz74_9 := blk_frozen BK306.out 9
            have hfz74_10 := blk_frozen BK306.out 10
            have hfz74_11 := blk_frozen BK306.out 11
            have hfz74_12 := blk_frozen BK306.out 12
            go_wp2
            go_meet
            case rel => exact ⟨_, (decide ((bt a0 0) ≤ 4)), (by first | (with_reducible rfl) | (simp; done) | (simp [*]; done) | (refine congrArg (Value.int _) ?_; unfold wrap64; omega) | rfl), H', ⟨by have := HJ14.out; first | omega | exact Nat.le_refl _⟩, ⟨by (with_reducible repeat (first | refine blk_drewN ?_ _ | refine blk_drew ?_ | refine blk_alloc ?_ _)); exact BK305.out⟩, ⟨by (with_reducible repeat (first | refine blk_drewN ?_ _ | refine blk_drew ?_ | refine blk_alloc ?_ _)); exact BK306.out⟩, ⟨by repeat (first | (with_reducible first | exact HB.out | apply below_alloc | apply pw_below_drewN | apply below_drew1 | refine below_set ?_ GE305.out | refine below_set ?_ GE306.out) | exact HB.out)⟩⟩
           ·rw [if_neg c72] at H
            have c72b0 : decide (2 ≤ (bt a0 0)) = false := decide_eq_false c72
            clear c72
            (first | rw [c72b0] | (simp only [i64_w, i32_w]; rw [c72b0]) | skip)
            have H' := Aside0.mk H
            clear H
            have hnb75 := NB306_305.out
            have hnc75 := NB305_306.out
            have hcz76_0 : wc.cell? ⟨gb306, 0, none⟩ = some (.int .u64 t307) := (blk_cell BK306.out 0).trans rfl
            have hcz76_1 : wc.cell? ⟨gb306, 1, none⟩ = some (.int .u64 t310) := (blk_cell BK306.out 1).trans rfl
            have hcz76_2 : wc.cell? ⟨gb306, 2, none⟩ = some (.int .u8 (bt a0 0)) := (blk_cell BK306.out 2).trans rfl
            have hcz76_3 : wc.cell? ⟨gb306, 3, none⟩ = some (.int .u8 x307003_14) := (blk_cell BK306.out 3).trans rfl
            have hcz76_4 : wc.cell? ⟨gb306, 4, none⟩ = some (.int .u8 x307004_14) := (blk_cell BK306.out 4).trans rfl
            have hcz76_5 : wc.cell? ⟨gb306, 5, none⟩ = some (.int .u8 x307005_14) := (blk_cell BK306.out 5).trans rfl
            have hcz76_6 : wc.cell? ⟨gb306, 6, none⟩ = some (.int .u8 x307006_14) := (blk_cell BK306.out 6).trans rfl
            have hcz76_7 : wc.cell? ⟨gb306, 7, none⟩ = some (.int .u8 x307007_14) := (blk_cell BK306.out 7).trans rfl
            have hcz76_8 : wc.cell? ⟨gb306, 8, none⟩ = some (.int .u8 x307008_14) := (blk_cell BK306.out 8).trans rfl
            have hcz76_9 : wc.cell? ⟨gb306, 9, none⟩ = some (.int .u8 x307009_14) := (blk_cell BK306.out 9).trans rfl
            have hcz76_10 : wc.cell? ⟨gb306, 10, none⟩ = some (.int .u8 x307010_14) := (blk_cell BK306.out 10).trans rfl
            have hcz76_11 : wc.cell? ⟨gb306, 11, none⟩ = some (.int .u8 x307011_14) := (blk_cell BK306.out 11).trans rfl
            have hcz76_12 : wc.cell? ⟨gb306, 12, none⟩ = some (.string (⟨#[]⟩ : ByteArray)) := (blk_cell BK306.out 12).trans rfl
            have hfz76_0 := blk_frozen BK306.out 0
            have hfz76_1 := blk_frozen BK306.out 1
            have hfz76_2 := blk_frozen BK306.out 2
            have hfz76_3 := blk_frozen BK306.out 3
            have hfz76_4 := blk_frozen BK306.out 4
            have hfz76_5 := blk_frozen BK306.out 5
            have hfz76_6 := blk_frozen BK306.out 6
            have hfz76_7 := blk_frozen BK306.out 7
            have hfz76_8 := blk_frozen BK306.out 8
            have hfz76_9 := blk_frozen BK306.out 9
            have hfz76_10 := blk_frozen BK306.out 10
            have hfz76_11 := blk_frozen BK306.out 11
            have hfz76_12 := blk_frozen BK306.out 12
            go_wp2
            go_meet
            case rel => exact ⟨_, (false), (by first | (with_reducible rfl) | (simp; done) | (simp [*]; done) | (refine congrArg (Value.int _) ?_; unfold wrap64; omega) | rfl), H', ⟨by have := HJ14.out; first | omega | exact Nat.le_refl _⟩, ⟨by (with_reducible repeat (first | refine blk_drewN ?_ _ | refine blk_drew ?_ | refine blk_alloc ?_ _)); exact BK305.out⟩, ⟨by (with_reducible repeat (first | refine blk_drewN ?_ _ | refine blk_drew ?_ | refine blk_alloc ?_ _)); exact BK306.out⟩, ⟨by repeat (first | (with_reducible first | exact HB.out | apply below_alloc | apply pw_below_drewN | apply below_drew1 | refine below_set ?_ GE305.out | refine below_set ?_ GE306.out) | exact HB.out)⟩⟩
          case rest =>
           clear HC71
           try clear c2
           try clear p2
           try clear c3
           try clear p3
           try clear q3
           try clear hx3
           try clear c4
           try clear c5
           try clear c6
           try clear p6
           try clear q6
           try clear c7
           try clear c23
           try clear c23b0
           try clear c23b1
           try clear c28
           try clear c29
           try clear p30
           try clear q30
           try clear c33
           try clear c33b0
           try clear c35
           try clear c35b0
           try clear c36
           try clear c36b0
           try clear p37
           try clear q37
           try clear hx37
           try clear c38
           try clear c38b0
           try clear c39
           try clear c39b0
           try clear c39b1
           try clear c40
           try clear c41
           try clear c43
           try clear c43b0
           try clear c43b1
           try clear c44
           try clear c45
           try clear c47
           try clear c47b0
           try clear c47b1
           try clear c48
           try clear c49
           try clear c51
           try clear c51b0
           try clear c51b1
           try clear c52
           try clear c53
           try clear c55
           try clear c55b0
           try clear c55b1
           try clear c56
           try clear c57
           try clear c59
           try clear c59b0
           try clear c59b1
           try clear c60
           try clear c61
           try clear c63
           try clear c63b0
           try clear c63b1
           try clear c64
           try clear p64
           try clear c65
           try clear c67
           try clear c67b0
           try clear c67b1
           try clear c68
           try clear c69
           try clear c72
           try clear c72b0
           try clear c73
           try clear c75
           try clear hcz19_12
           try clear hcz19_2
           try clear hcz19_3
           try clear hcz19_4
           try clear hcz19_5
           try clear hcz19_6
           try clear hcz19_7
           try clear hcz19_8
           try clear hcz19_9
           try clear hcz22_0
           try clear hcz22_1
           try clear hcz22_10
           try clear hcz22_11
           try clear hcz22_12
           try clear hcz22_2
           try clear hcz22_3
           try clear hcz22_4
           try clear hcz22_5
           try clear hcz22_6
           try clear hcz22_7
           try clear hcz22_8
           try clear hcz22_9
           try clear hcz26_0
           try clear hcz26_1
           try clear hcz26_10
           try clear hcz26_11
           try clear hcz26_12
           try clear hcz26_2
           try clear hcz26_3
           try clear hcz26_4
           try clear hcz26_5
           try clear hcz26_6
           try clear hcz26_7
           try clear hcz26_8
           try clear hcz26_9
           try clear hcz32_0
           try clear hcz32_1
           try clear hcz32_10
           try clear hcz32_11
           try clear hcz32_12
           try clear hcz32_2
           try clear hcz32_3
           try clear hcz32_4
           try clear hcz32_5
           try clear hcz32_6
           try clear hcz32_7
           try clear hcz32_8
           try clear hcz32_9
           try clear hcz42_0
           try clear hcz42_1
           try clear hcz42_10
           try clear hcz42_11
           try clear hcz42_12
           try clear hcz42_2
           try clear hcz42_3
           try clear hcz42_4
           try clear hcz42_5
           try clear hcz42_6
           try clear hcz42_7
           try clear hcz42_8
           try clear hcz42_9
           try clear hcz46_0
           try clear hcz46_1
           try clear hcz46_10
           try clear hcz46_11
           try clear hcz46_12
           try clear hcz46_2
           try clear hcz46_3
           try clear hcz46_4
           try clear hcz46_5
           try clear hcz46_6
           try clear hcz46_7
           try clear hcz46_8
           try clear hcz46_9
           try clear hcz4_0
           try clear hcz4_1
           try clear hcz4_10
           try clear hcz4_11
           try clear hcz4_12
           try clear hcz4_2
           try clear hcz4_3
           try clear hcz4_4
           try clear hcz4_5
           try clear hcz4_6
           try clear hcz4_7
           try clear hcz4_8
           try clear hcz4_9
           try clear hcz50_0
           try clear hcz50_1
           try clear hcz50_10
           try clear hcz50_11
           try clear hcz50_12
           try clear hcz50_2
           try clear hcz50_3
           try clear hcz50_4
           try clear hcz50_5
           try clear hcz50_6
           try clear hcz50_7
           try clear hcz50_8
           try clear hcz50_9
           try clear hcz54_0
           try clear hcz54_1
           try clear hcz54_10
           try clear hcz54_11
           try clear hcz54_12
           try clear hcz54_2
           try clear hcz54_3
           try clear hcz54_4
           try clear hcz54_5
           try clear hcz54_6
           try clear hcz54_7
           try clear hcz54_8
           try clear hcz54_9
           try clear hcz58_0
           try clear hcz58_1
           try clear hcz58_10
           try clear hcz58_11
           try clear hcz58_12
           try clear hcz58_2
           try clear hcz58_3
           try clear hcz58_4
           try clear hcz58_5
           try clear hcz58_6
           try clear hcz58_7
           try clear hcz58_8
           try clear hcz58_9
           try clear hcz62_0
           try clear hcz62_1
           try clear hcz62_10
           try clear hcz62_11
           try clear hcz62_12
           try clear hcz62_2
           try clear hcz62_3
           try clear hcz62_4
           try clear hcz62_5
           try clear hcz62_6
           try clear hcz62_7
           try clear hcz62_8
           try clear hcz62_9
           try clear hcz66_0
           try clear hcz66_1
           try clear hcz66_10
           try clear hcz66_11
           try clear hcz66_12
           try clear hcz66_2
           try clear hcz66_3
           try clear hcz66_4
           try clear hcz66_5
           try clear hcz66_6
           try clear hcz66_7
           try clear hcz66_8
           try clear hcz66_9
           try clear hcz70_0
           try clear hcz70_1
           try clear hcz70_10
           try clear hcz70_11
           try clear hcz70_12
           try clear hcz70_2
           try clear hcz70_3
           try clear hcz70_4
           try clear hcz70_5
           try clear hcz70_6
           try clear hcz70_7
           try clear hcz70_8
           try clear hcz70_9
           try clear hcz74_0
           try clear hcz74_1
           try clear hcz74_10
           try clear hcz74_11
           try clear hcz74_12
           try clear hcz74_2
           try clear hcz74_3
           try clear hcz74_4
           try clear hcz74_5
           try clear hcz74_6
           try clear hcz74_7
           try clear hcz74_8
           try clear hcz74_9
           try clear hcz76_0
           try clear hcz76_1
           try clear hcz76_10
           try clear hcz76_11
           try clear hcz76_12
           try clear hcz76_2
           try clear hcz76_3
           try clear hcz76_4
           try clear hcz76_5
           try clear hcz76_6
           try clear hcz76_7
           try clear hcz76_8
           try clear hcz76_9
           try clear hfz19_0
           try clear hfz19_1
           try clear hfz19_10
           try clear hfz19_11
           try clear hfz19_12
           try clear hfz19_2
           try clear hfz19_3
           try clear hfz19_4
           try clear hfz19_5
           try clear hfz19_6
           try clear hfz19_7
           try clear hfz19_8
           try clear hfz19_9
           try clear hfz22_0
           try clear hfz22_1
           try clear hfz22_10
           try clear hfz22_11
           try clear hfz22_12
           try clear hfz22_2
           try clear hfz22_3
           try clear hfz22_4
           try clear hfz22_5
           try clear hfz22_6
           try clear hfz22_7
           try clear hfz22_8
           try clear hfz22_9
           try clear hfz26_0
           try clear hfz26_1
           try clear hfz26_10
           try clear hfz26_11
           try clear hfz26_12
           try clear hfz26_2
           try clear hfz26_3
           try clear hfz26_4
           try clear hfz26_5
           try clear hfz26_6
           try clear hfz26_7
           try clear hfz26_8
           try clear hfz26_9
           try clear hfz32_0
           try clear hfz32_1
           try clear hfz32_10
           try clear hfz32_11
           try clear hfz32_12
           try clear hfz32_2
           try clear hfz32_3
           try clear hfz32_4
           try clear hfz32_5
           try clear hfz32_6
           try clear hfz32_7
           try clear hfz32_8
           try clear hfz32_9
           try clear hfz42_0
           try clear hfz42_1
           try clear hfz42_10
           try clear hfz42_11
           try clear hfz42_12
           try clear hfz42_2
           try clear hfz42_3
           try clear hfz42_4
           try clear hfz42_5
           try clear hfz42_6
           try clear hfz42_7
           try clear hfz42_8
           try clear hfz42_9
           try clear hfz46_0
           try clear hfz46_1
           try clear hfz46_10
           try clear hfz46_11
           try clear hfz46_12
           try clear hfz46_2
           try clear hfz46_3
           try clear hfz46_4
           try clear hfz46_5
           try clear hfz46_6
           try clear hfz46_7
           try clear hfz46_8
           try clear hfz46_9
           try clear hfz4_0
           try clear hfz4_1
           try clear hfz4_10
           try clear hfz4_11
           try clear hfz4_12
           try clear hfz4_2
           try clear hfz4_3
           try clear hfz4_4
           try clear hfz4_5
           try clear hfz4_6
           try clear hfz4_7
           try clear hfz4_8
           try clear hfz4_9
           try clear hfz50_0
           try clear hfz50_1
           try clear hfz50_10
           try clear hfz50_11
           try clear hfz50_12
           try clear hfz50_2
           try clear hfz50_3
           try clear hfz50_4
           try clear hfz50_5
           try clear hfz50_6
           try clear hfz50_7
           try clear hfz50_8
           try clear hfz50_9
           try clear hfz54_0
           try clear hfz54_1
           try clear hfz54_10
           try clear hfz54_11
           try clear hfz54_12
           try clear hfz54_2
           try clear hfz54_3
           try clear hfz54_4
           try clear hfz54_5
           try clear hfz54_6
           try clear hfz54_7
           try clear hfz54_8
           try clear hfz54_9
           try clear hfz58_0
           try clear hfz58_1
           try clear hfz58_10
           try clear hfz58_11
           try clear hfz58_12
           try clear hfz58_2
           try clear hfz58_3
           try clear hfz58_4
           try clear hfz58_5
           try clear hfz58_6
           try clear hfz58_7
           try clear hfz58_8
           try clear hfz58_9
           try clear hfz62_0
           try clear hfz62_1
           try clear hfz62_10
           try clear hfz62_11
           try clear hfz62_12
           try clear hfz62_2
           try clear hfz62_3
           try clear hfz62_4
           try clear hfz62_5
           try clear hfz62_6
           try clear hfz62_7
           try clear hfz62_8
           try clear hfz62_9
           try clear hfz66_0
           try clear hfz66_1
           try clear hfz66_10
           try clear hfz66_11
           try clear hfz66_12
           try clear hfz66_2
           try clear hfz66_3
           try clear hfz66_4
           try clear hfz66_5
           try clear hfz66_6
           try clear hfz66_7
           try clear hfz66_8
           try clear hfz66_9
           try clear hfz70_0
           try clear hfz70_1
           try clear hfz70_10
           try clear hfz70_11
           try clear hfz70_12
           try clear hfz70_2
           try clear hfz70_3
           try clear hfz70_4
           try clear hfz70_5
           try clear hfz70_6
           try clear hfz70_7
           try clear hfz70_8
           try clear hfz70_9
           try clear hfz74_0
           try clear hfz74_1
           try clear hfz74_10
           try clear hfz74_11
           try clear hfz74_12
           try clear hfz74_2
           try clear hfz74_3
           try clear hfz74_4
           try clear hfz74_5
           try clear hfz74_6
           try clear hfz74_7
           try clear hfz74_8
           try clear hfz74_9
           try clear hfz76_0
           try clear hfz76_1
           try clear hfz76_10
           try clear hfz76_11
           try clear hfz76_12
           try clear hfz76_2
           try clear hfz76_3
           try clear hfz76_4
           try clear hfz76_5
           try clear hfz76_6
           try clear hfz76_7
           try clear hfz76_8
           try clear hfz76_9
           try clear p2
           try clear p3
           try clear p30
           try clear p37
           try clear p6
           try clear p64
           try clear q3
           try clear q30
           try clear q37
           try clear q6
           obtain ⟨kq, x87_70, rfl, HA, HJ70, BK305, BK306, HB⟩ := hcut
           cases kq with
           | zero => exact absurd HA.out (by simp [wapentakeref04_Read.j2])
           | succ kj70 =>
            have H := HA.out
            clear HA
            simp only [wapentakeref04_Read.j2] at H
            by_cases c77 : x87_70 = true
            ·subst c77
             have H1 : (if 0 ≤ x10_14 then (if x10_14 ≤ (a0.size : Int) then ((wapentakeref01_ReadS.f kj70 (a0.extract (x10_14 : Int).toNat a0.size)).bind fun bt313 => (if bt313.2.2 = true then (if (wrap64 (x10_14 + bt313.2.1)) = (a0.size : Int) then ((wapentakeref04_Right.f kj70 t307 t310 (bt a0 0) x307003_14 x307004_14 x307005_14 x307006_14 x307007_14 x307008_14 x307009_14 x307010_14 x307011_14 bt313.1).bind fun t316 => (if t316 = true then (some (t307, t310, (bt a0 0), x307003_14, x307004_14, x307005_14, x307006_14, x307007_14, x307008_14, x307009_14, x307010_14, x307011_14, bt313.1, true)) else (some (0, 0, 0, 0, 0, 0, 0, 0, 0, 0, 0, 0, (⟨#[]⟩ : ByteArray), false)))) else (some (0, 0, 0, 0, 0, 0, 0, 0, 0, 0, 0, 0, (⟨#[]⟩ : ByteArray), false))) else (some (0, 0, 0, 0, 0, 0, 0, 0, 0, 0, 0, 0, (⟨#[]⟩ : ByteArray), false)))) else (none)) else (none)) = some (r1, r2, r3, r4, r5, r6, r7, r8, r9, r10, r11, r12, r13, r14) := by rw [if_pos rfl] at H; exact H
             clear H
             have H := H1
             clear H1
             by_cases c78 : 0 ≤ x10_14
             ·rw [if_pos c78] at H
              have c78b0 := eq_true c78
              have c78b1 : decide (0 ≤ x10_14) = true := decide_eq_true c78
              clear c78
              by_cases c79 : x10_14 ≤ (a0.size : Int)
              ·rw [if_pos c79] at H
               have c79b0 := eq_true c79
               have c79b1 : decide (x10_14 ≤ (a0.size : Int)) = true := decide_eq_true c79
               clear c79
               replace H := Option.bind_eq_some_iff.mp H
               obtain ⟨⟨t313, t314, t315⟩, A800, H⟩ := H
               replace H : (if t315 = true then (if (wrap64 (x10_14 + t314)) = (a0.size : Int) then ((wapentakeref04_Right.f kj70 t307 t310 (bt a0 0) x307003_14 x307004_14 x307005_14 x307006_14 x307007_14 x307008_14 x307009_14 x307010_14 x307011_14 t313).bind fun t316 => (if t316 = true then (some (t307, t310, (bt a0 0), x307003_14, x307004_14, x307005_14, x307006_14, x307007_14, x307008_14, x307009_14, x307010_14, x307011_14, t313, true)) else (some (0, 0, 0, 0, 0, 0, 0, 0, 0, 0, 0, 0, (⟨#[]⟩ : ByteArray), false)))) else (some (0, 0, 0, 0, 0, 0, 0, 0, 0, 0, 0, 0, (⟨#[]⟩ : ByteArray), false))) else (some (0, 0, 0, 0, 0, 0, 0, 0, 0, 0, 0, 0, (⟨#[]⟩ : ByteArray), false))) = some (r1, r2, r3, r4, r5, r6, r7, r8, r9, r10, r11, r12, r13, r14) := H
               have A80 := Aside0.mk A800
               clear A800
               by_cases c81 : t315 = true
               ·subst c81
                have H1 : (if (wrap64 (x10_14 + t314)) = (a0.size : Int) then ((wapentakeref04_Right.f kj70 t307 t310 (bt a0 0) x307003_14 x307004_14 x307005_14 x307006_14 x307007_14 x307008_14 x307009_14 x307010_14 x307011_14 t313).bind fun t316 => (if t316 = true then (some (t307, t310, (bt a0 0), x307003_14, x307004_14, x307005_14, x307006_14, x307007_14, x307008_14, x307009_14, x307010_14, x307011_14, t313, true)) else (some (0, 0, 0, 0, 0, 0, 0, 0, 0, 0, 0, 0, (⟨#[]⟩ : ByteArray), false)))) else (some (0, 0, 0, 0, 0, 0, 0, 0, 0, 0, 0, 0, (⟨#[]⟩ : ByteArray), false))) = some (r1, r2, r3, r4, r5, r6, r7, r8, r9, r10, r11, r12, r13, r14) := by rw [if_pos rfl] at H; exact H
                clear H
                have H := H1
                clear H1
                by_cases c82 : (wrap64 (x10_14 + t314)) = (a0.size : Int)
                ·rw [if_pos c82] at H
                 have c82b0 : ((wrap64 (x10_14 + t314)) == (a0.size : Int)) = true := beq_iff_eq.mpr c82
                 have c82b1 : ((wrap64 (x10_14 + t314)) != (a0.size : Int)) = false := bne_eq_false_iff_eq.mpr c82
                 clear c82
                 replace H := Option.bind_eq_some_iff.mp H
                 obtain ⟨t316, A830, H⟩ := H
                 replace H : (if t316 = true then (some (t307, t310, (bt a0 0), x307003_14, x307004_14, x307005_14, x307006_14, x307007_14, x307008_14, x307009_14, x307010_14, x307011_14, t313, true)) else (some (0, 0, 0, 0, 0, 0, 0, 0, 0, 0, 0, 0, (⟨#[]⟩ : ByteArray), false))) = some (r1, r2, r3, r4, r5, r6, r7, r8, r9, r10, r11, r12, r13, r14) := H
                 have A83 := Aside0.mk A830
                 clear A830
                 by_cases c84 : t316 = true
                 ·subst c84
                  have H1 : (some (t307, t310, (bt a0 0), x307003_14, x307004_14, x307005_14, x307006_14, x307007_14, x307008_14, x307009_14, x307010_14, x307011_14, t313, true)) = some (r1, r2, r3, r4, r5, r6, r7, r8, r9, r10, r11, r12, r13, r14) := by rw [if_pos rfl] at H; exact H
                  clear H
                  have H := H1
                  clear H1
                  simp only [Option.some.injEq, Prod.mk.injEq] at H
                  obtain ⟨rfl, rfl, rfl, rfl, rfl, rfl, rfl, rfl, rfl, rfl, rfl, rfl, rfl, rfl⟩ := H
                  go_wp2_with (first | ((with_reducible refine gate_callee (f := 30) rfl ?_); refine goesL_ (some 92) rfl rfl Try.func30 (by kernel_rfl) rfl #[.string (a0.extract (x10_14 : Int).toNat a0.size)] rfl (by (try simp only [List.map_toArray, List.map_cons, List.map_nil]); first | done | rfl | (simp only [List.length_drop, List.length_take]; rfl)) ?_; (with_reducible refine (wapentakeref01_ReadS.calls kj70 (a0.extract (x10_14 : Int).toNat a0.size) t313 t314 true _ A80.out).mono ?_); rintro e w85 ⟨rfl, hb⟩; refine ⟨_, rfl, ?_⟩; have n0_ := Aside0.mk (blk_below (g := gb305) (o := .cells #[.int .u64 x306000_14, .int .u64 x306001_14, .int .u8 x306002_14, .int .u8 x306003_14, .int .u8 x306004_14, .int .u8 x306005_14, .int .u8 x306006_14, .int .u8 x306007_14, .int .u8 x306008_14, .int .u8 x306009_14, .int .u8 x306010_14, .int .u8 x306011_14, .string x306012_14] 27 (0, 0)) (by (with_reducible repeat (first | refine blk_drewN ?_ _ | refine blk_drew ?_ | refine blk_alloc ?_ _)); exact BK305.out) hb); have n1_ := Aside0.mk (blk_below (g := gb306) (o := .cells #[.int .u64 t307, .int .u64 t310, .int .u8 (bt a0 0), .int .u8 x307003_14, .int .u8 x307004_14, .int .u8 x307005_14, .int .u8 x307006_14, .int .u8 x307007_14, .int .u8 x307008_14, .int .u8 x307009_14, .int .u8 x307010_14, .int .u8 x307011_14, .string (⟨#[]⟩ : ByteArray)] 27 (0, 0)) (by (with_reducible repeat (first | refine blk_drewN ?_ _ | refine blk_drew ?_ | refine blk_alloc ?_ _)); exact BK306.out) hb); have n2_ := Aside0.mk (below_step (by repeat (first | (with_reducible first | exact HB.out | apply below_alloc | apply pw_below_drewN | apply below_drew1 | refine below_set ?_ GE305.out | refine below_set ?_ GE306.out) | exact HB.out)) hb); clear BK305; clear BK306; clear HB; have BK305 := n0_; have BK306 := n1_; have HB := n2_; clear n0_ n1_ n2_; (try clear hb); (try clear hb2); (try clear hk); (try clear hi); have hnb86 := NB306_305.out; have hnc86 := NB305_306.out; have hcz87_0 : w85.cell? ⟨gb306, 0, none⟩ = some (.int .u64 t307) := (blk_cell BK306.out 0).trans rfl; have hcz87_1 : w85.cell? ⟨gb306, 1, none⟩ = some (.int .u64 t310) := (blk_cell BK306.out 1).trans rfl; have hcz87_2 : w85.cell? ⟨gb306, 2, none⟩ = some (.int .u8 (bt a0 0)) := (blk_cell BK306.out 2).trans rfl; have hcz87_3 : w85.cell? ⟨gb306, 3, none⟩ = some (.int .u8 x307003_14) := (blk_cell BK306.out 3).trans rfl; have hcz87_4 : w85.cell? ⟨gb306, 4, none⟩ = some (.int .u8 x307004_14) := (blk_cell BK306.out 4).trans rfl; have hcz87_5 : w85.cell? ⟨gb306, 5, none⟩ = some (.int .u8 x307005_14) := (blk_cell BK306.out 5).trans rfl; have hcz87_6 : w85.cell? ⟨gb306, 6, none⟩ = some (.int .u8 x307006_14) := (blk_cell BK306.out 6).trans rfl; have hcz87_7 : w85.cell? ⟨gb306, 7, none⟩ = some (.int .u8 x307007_14) := (blk_cell BK306.out 7).trans rfl; have hcz87_8 : w85.cell? ⟨gb306, 8, none⟩ = some (.int .u8 x307008_14) := (blk_cell BK306.out 8).trans rfl; have hcz87_9 : w85.cell? ⟨gb306, 9, none⟩ = some (.int .u8 x307009_14) := (blk_cell BK306.out 9).trans rfl; have hcz87_10 : w85.cell? ⟨gb306, 10, none⟩ = some (.int .u8 x307010_14) := (blk_cell BK306.out 10).trans rfl; have hcz87_11 : w85.cell? ⟨gb306, 11, none⟩ = some (.int .u8 x307011_14) := (blk_cell BK306.out 11).trans rfl; have hcz87_12 : w85.cell? ⟨gb306, 12, none⟩ = some (.string (⟨#[]⟩ : ByteArray)) := (blk_cell BK306.out 12).trans rfl; have hfz87_0 := blk_frozen BK306.out 0; have hfz87_1 := blk_frozen BK306.out 1; have hfz87_2 := blk_frozen BK306.out 2; have hfz87_3 := blk_frozen BK306.out 3; have hfz87_4 := blk_frozen BK306.out 4; have hfz87_5 := blk_frozen BK306.out 5; have hfz87_6 := blk_frozen BK306.out 6; have hfz87_7 := blk_frozen BK306.out 7; have hfz87_8 := blk_frozen BK306.out 8; have hfz87_9 := blk_frozen BK306.out 9; have hfz87_10 := blk_frozen BK306.out 10; have hfz87_11 := blk_frozen BK306.out 11; have hfz87_12 := blk_frozen BK306.out 12) | (go_at_call 15; (with_reducible refine (wapentakeref04_Right.calls kj70 t307 t310 (bt a0 0) x307003_14 x307004_14 x307005_14 x307006_14 x307007_14 x307008_14 x307009_14 x307010_14 x307011_14 t313 true _ A83.out).mono ?_); rintro e w88 ⟨rfl, hb⟩; have n0_ := Aside0.mk (blk_below (g := gb305) (o := .cells #[.int .u64 x306000_14, .int .u64 x306001_14, .int .u8 x306002_14, .int .u8 x306003_14, .int .u8 x306004_14, .int .u8 x306005_14, .int .u8 x306006_14, .int .u8 x306007_14, .int .u8 x306008_14, .int .u8 x306009_14, .int .u8 x306010_14, .int .u8 x306011_14, .string x306012_14] 27 (0, 0)) (by (with_reducible repeat (first | refine blk_drewN ?_ _ | refine blk_drew ?_ | refine blk_alloc ?_ _)); refine blk_far ?_ NB305_306.out _; (with_reducible repeat (first | refine blk_drewN ?_ _ | refine blk_drew ?_ | refine blk_alloc ?_ _)); exact BK305.out) hb); have n1_ := Aside0.mk (blk_below (g := gb306) (o := .cells #[.int .u64 t307, .int .u64 t310, .int .u8 (bt a0 0), .int .u8 x307003_14, .int .u8 x307004_14, .int .u8 x307005_14, .int .u8 x307006_14, .int .u8 x307007_14, .int .u8 x307008_14, .int .u8 x307009_14, .int .u8 x307010_14, .int .u8 x307011_14, .string t313] 27 (0, 0)) (by (with_reducible repeat (first | refine blk_drewN ?_ _ | refine blk_drew ?_ | refine blk_alloc ?_ _)); refine blk_put (cs := #[.int .u64 t307, .int .u64 t310, .int .u8 (bt a0 0), .int .u8 x307003_14, .int .u8 x307004_14, .int .u8 x307005_14, .int .u8 x307006_14, .int .u8 x307007_14, .int .u8 x307008_14, .int .u8 x307009_14, .int .u8 x307010_14, .int .u8 x307011_14, .string (⟨#[]⟩ : ByteArray)]) ?_ 12 _ rfl; (with_reducible repeat (first | refine blk_drewN ?_ _ | refine blk_drew ?_ | refine blk_alloc ?_ _)); exact BK306.out) hb); have n2_ := Aside0.mk (below_step (by repeat (first | (with_reducible first | exact HB.out | apply below_alloc | apply pw_below_drewN | apply below_drew1 | refine below_set ?_ GE305.out | refine below_set ?_ GE306.out) | exact HB.out)) hb); clear BK305; clear BK306; clear HB; have BK305 := n0_; have BK306 := n1_; have HB := n2_; clear n0_ n1_ n2_; (try clear hb); (try clear hb2); (try clear hk); (try clear hi); have hcz89_0 : w88.cell? ⟨gb306, 0, none⟩ = some (.int .u64 t307) := (blk_cell BK306.out 0).trans rfl; have hcz89_1 : w88.cell? ⟨gb306, 1, none⟩ = some (.int .u64 t310) := (blk_cell BK306.out 1).trans rfl; have hcz89_2 : w88.cell? ⟨gb306, 2, none⟩ = some (.int .u8 (bt a0 0)) := (blk_cell BK306.out 2).trans rfl; have hcz89_3 : w88.cell? ⟨gb306, 3, none⟩ = some (.int .u8 x307003_14) := (blk_cell BK306.out 3).trans rfl; have hcz89_4 : w88.cell? ⟨gb306, 4, none⟩ = some (.int .u8 x307004_14) := (blk_cell BK306.out 4).trans rfl; have hcz89_5 : w88.cell? ⟨gb306, 5, none⟩ = some (.int .u8 x307005_14) := (blk_cell BK306.out 5).trans rfl; have hcz89_6 : w88.cell? ⟨gb306, 6, none⟩ = some (.int .u8 x307006_14) := (blk_cell BK306.out 6).trans rfl; have hcz89_7 : w88.cell? ⟨gb306, 7, none⟩ = some (.int .u8 x307007_14) := (blk_cell BK306.out 7).trans rfl; have hcz89_8 : w88.cell? ⟨gb306, 8, none⟩ = some (.int .u8 x307008_14) := (blk_cell BK306.out 8).trans rfl; have hcz89_9 : w88.cell? ⟨gb306, 9, none⟩ = some (.int .u8 x307009_14) := (blk_cell BK306.out 9).trans rfl; have hcz89_10 : w88.cell? ⟨gb306, 10, none⟩ = some (.int .u8 x307010_14) := (blk_cell BK306.out 10).trans rfl; have hcz89_11 : w88.cell? ⟨gb306, 11, none⟩ = some (.int .u8 x307011_14) := (blk_cell BK306.out 11).trans rfl; have hcz89_12 : w88.cell? ⟨gb306, 12, none⟩ = some (.string t313) := (blk_cell BK306.out 12).trans rfl; have hfz89_0 := blk_frozen BK306.out 0; have hfz89_1 := blk_frozen BK306.out 1; have hfz89_2 := blk_frozen BK306.out 2; have hfz89_3 := blk_frozen BK306.out 3; have hfz89_4 := blk_frozen BK306.out 4; have hfz89_5 := blk_frozen BK306.out 5; have hfz89_6 := blk_frozen BK306.out 6; have hfz89_7 := blk_frozen BK306.out 7; have hfz89_8 := blk_frozen BK306.out 8; have hfz89_9 := blk_frozen BK306.out 9; have hfz89_10 := blk_frozen BK306.out 10; have hfz89_11 := blk_frozen BK306.out 11; have hfz89_12 := blk_frozen BK306.out 12; have hcz90_0 : w88.cell? ⟨gb305, 0, none⟩ = some (.int .u64 x306000_14) := (blk_cell BK305.out 0).trans rfl; have hcz90_1 : w88.cell? ⟨gb305, 1, none⟩ = some (.int .u64 x306001_14) := (blk_cell BK305.out 1).trans rfl; have hcz90_2 : w88.cell? ⟨gb305, 2, none⟩ = some (.int .u8 x306002_14) := (blk_cell BK305.out 2).trans rfl; have hcz90_3 : w88.cell? ⟨gb305, 3, none⟩ = some (.int .u8 x306003_14) := (blk_cell BK305.out 3).trans rfl; have hcz90_4 : w88.cell? ⟨gb305, 4, none⟩ = some (.int .u8 x306004_14) := (blk_cell BK305.out 4).trans rfl; have hcz90_5 : w88.cell? ⟨gb305, 5, none⟩ = some (.int .u8 x306005_14) := (blk_cell BK305.out 5).trans rfl; have hcz90_6 : w88.cell? ⟨gb305, 6, none⟩ = some (.int .u8 x306006_14) := (blk_cell BK305.out 6).trans rfl; have hcz90_7 : w88.cell? ⟨gb305, 7, none⟩ = some (.int .u8 x306007_14) := (blk_cell BK305.out 7).trans rfl; have hcz90_8 : w88.cell? ⟨gb305, 8, none⟩ = some (.int .u8 x306008_14) := (blk_cell BK305.out 8).trans rfl; have hcz90_9 : w88.cell? ⟨gb305, 9, none⟩ = some (.int .u8 x306009_14) := (blk_cell BK305.out 9).trans rfl; have hcz90_10 : w88.cell? ⟨gb305, 10, none⟩ = some (.int .u8 x306010_14) := (blk_cell BK305.out 10).trans rfl; have hcz90_11 : w88.cell? ⟨gb305, 11, none⟩ = some (.int .u8 x306011_14) := (blk_cell BK305.out 11).trans rfl; have hcz90_12 : w88.cell? ⟨gb305, 12, none⟩ = some (.string x306012_14) := (blk_cell BK305.out 12).trans rfl; have hfz90_0 := blk_frozen BK305.out 0; have hfz90_1 := blk_frozen BK305.out 1; have hfz90_2 := blk_frozen BK305.out 2; have hfz90_3 := blk_frozen BK305.out 3; have hfz90_4 := blk_frozen BK305.out 4; have hfz90_5 := blk_frozen BK305.out 5; have hfz90_6 := blk_frozen BK305.out 6; have hfz90_7 := blk_frozen BK305.out 7; have hfz90_8 := blk_frozen BK305.out 8; have hfz90_9 := blk_frozen BK305.out 9; have hfz90_10 := blk_frozen BK305.out 10; have hfz90_11 := blk_frozen BK305.out 11; have hfz90_12 := blk_frozen BK305.out 12))
                  refine bodyPost_ret (results_ct rfl _ _ gb305 27 #[.int .u64 t307, .int .u64 t310, .int .u8 (bt a0 0), .int .u8 x307003_14, .int .u8 x307004_14, .int .u8 x307005_14, .int .u8 x307006_14, .int .u8 x307007_14, .int .u8 x307008_14, .int .u8 x307009_14, .int .u8 x307010_14, .int .u8 x307011_14, .string t313] (0, 0) _ rfl (by (with_reducible repeat (first | refine blk_drewN ?_ _ | refine blk_drew ?_ | refine blk_alloc ?_ _)); refine blk_put (cs := #[.int .u64 t307, .int .u64 t310, .int .u8 (bt a0 0), .int .u8 x307003_14, .int .u8 x307004_14, .int .u8 x307005_14, .int .u8 x307006_14, .int .u8 x307007_14, .int .u8 x307008_14, .int .u8 x307009_14, .int .u8 x307010_14, .int .u8 x307011_14, .string x306012_14]) ?_ 12 _ rfl; (with_reducible repeat (first | refine blk_drewN ?_ _ | refine blk_drew ?_ | refine blk_alloc ?_ _)); refine blk_put (cs := #[.int .u64 t307, .int .u64 t310, .int .u8 (bt a0 0), .int .u8 x307003_14, .int .u8 x307004_14, .int .u8 x307005_14, .int .u8 x307006_14, .int .u8 x307007_14, .int .u8 x307008_14, .int .u8 x307009_14, .int .u8 x307010_14, .int .u8 x306011_14, .string x306012_14]) ?_ 11 _ rfl; (with_reducible repeat (first | refine blk_drewN ?_ _ | refine blk_drew ?_ | refine blk_alloc ?_ _)); refine blk_put (cs := #[.int .u64 t307, .int .u64 t310, .int .u8 (bt a0 0), .int .u8 x307003_14, .int .u8 x307004_14, .int .u8 x307005_14, .int .u8 x307006_14, .int .u8 x307007_14, .int .u8 x307008_14, .int .u8 x307009_14, .int .u8 x306010_14, .int .u8 x306011_14, .string x306012_14]) ?_ 10 _ rfl; (with_reducible repeat (first | refine blk_drewN ?_ _ | refine blk_drew ?_ | refine blk_alloc ?_ _)); refine blk_put (cs := #[.int .u64 t307, .int .u64 t310, .int .u8 (bt a0 0), .int .u8 x307003_14, .int .u8 x307004_14, .int .u8 x307005_14, .int .u8 x307006_14, .int .u8 x307007_14, .int .u8 x307008_14, .int .u8 x306009_14, .int .u8 x306010_14, .int .u8 x306011_14, .string x306012_14]) ?_ 9 _ rfl; (with_reducible repeat (first | refine blk_drewN ?_ _ | refine blk_drew ?_ | refine blk_alloc ?_ _)); refine blk_put (cs := #[.int .u64 t307, .int .u64 t310, .int .u8 (bt a0 0), .int .u8 x307003_14, .int .u8 x307004_14, .int .u8 x307005_14, .int .u8 x307006_14, .int .u8 x307007_14, .int .u8 x306008_14, .int .u8 x306009_14, .int .u8 x306010_14, .int .u8 x306011_14, .string x306012_14]) ?_ 8 _ rfl; (with_reducible repeat (first | refine blk_drewN ?_ _ | refine blk_drew ?_ | refine blk_alloc ?_ _)); refine blk_put (cs := #[.int .u64 t307, .int .u64 t310, .int .u8 (bt a0 0), .int .u8 x307003_14, .int .u8 x307004_14, .int .u8 x307005_14, .int .u8 x307006_14, .int .u8 x306007_14, .int .u8 x306008_14, .int .u8 x306009_14, .int .u8 x306010_14, .int .u8 x306011_14, .string x306012_14]) ?_ 7 _ rfl; (with_reducible repeat (first | refine blk_drewN ?_ _ | refine blk_drew ?_ | refine blk_alloc ?_ _)); refine blk_put (cs := #[.int .u64 t307, .int .u64 t310, .int .u8 (bt a0 0), .int .u8 x307003_14, .int .u8 x307004_14, .int .u8 x307005_14, .int .u8 x306006_14, .int .u8 x306007_14, .int .u8 x306008_14, .int .u8 x306009_14, .int .u8 x306010_14, .int .u8 x306011_14, .string x306012_14]) ?_ 6 _ rfl; (with_reducible repeat (first | refine blk_drewN ?_ _ | refine blk_drew ?_ | refine blk_alloc ?_ _)); refine blk_put (cs := #[.int .u64 t307, .int .u64 t310, .int .u8 (bt a0 0), .int .u8 x307003_14, .int .u8 x307004_14, .int .u8 x306005_14, .int .u8 x306006_14, .int .u8 x306007_14, .int .u8 x306008_14, .int .u8 x306009_14, .int .u8 x306010_14, .int .u8 x306011_14, .string x306012_14]) ?_ 5 _ rfl; (with_reducible repeat (first | refine blk_drewN ?_ _ | refine blk_drew ?_ | refine blk_alloc ?_ _)); refine blk_put (cs := #[.int .u64 t307, .int .u64 t310, .int .u8 (bt a0 0), .int .u8 x307003_14, .int .u8 x306004_14, .int .u8 x306005_14, .int .u8 x306006_14, .int .u8 x306007_14, .int .u8 x306008_14, .int .u8 x306009_14, .int .u8 x306010_14, .int .u8 x306011_14, .string x306012_14]) ?_ 4 _ rfl; (with_reducible repeat (first | refine blk_drewN ?_ _ | refine blk_drew ?_ | refine blk_alloc ?_ _)); refine blk_put (cs := #[.int .u64 t307, .int .u64 t310, .int .u8 (bt a0 0), .int .u8 x306003_14, .int .u8 x306004_14, .int .u8 x306005_14, .int .u8 x306006_14, .int .u8 x306007_14, .int .u8 x306008_14, .int .u8 x306009_14, .int .u8 x306010_14, .int .u8 x306011_14, .string x306012_14]) ?_ 3 _ rfl; (with_reducible repeat (first | refine blk_drewN ?_ _ | refine blk_drew ?_ | refine blk_alloc ?_ _)); refine blk_put (cs := #[.int .u64 t307, .int .u64 t310, .int .u8 x306002_14, .int .u8 x306003_14, .int .u8 x306004_14, .int .u8 x306005_14, .int .u8 x306006_14, .int .u8 x306007_14, .int .u8 x306008_14, .int .u8 x306009_14, .int .u8 x306010_14, .int .u8 x306011_14, .string x306012_14]) ?_ 2 _ rfl; (with_reducible repeat (first | refine blk_drewN ?_ _ | refine blk_drew ?_ | refine blk_alloc ?_ _)); refine blk_put (cs := #[.int .u64 t307, .int .u64 x306001_14, .int .u8 x306002_14, .int .u8 x306003_14, .int .u8 x306004_14, .int .u8 x306005_14, .int .u8 x306006_14, .int .u8 x306007_14, .int .u8 x306008_14, .int .u8 x306009_14, .int .u8 x306010_14, .int .u8 x306011_14, .string x306012_14]) ?_ 1 _ rfl; (with_reducible repeat (first | refine blk_drewN ?_ _ | refine blk_drew ?_ | refine blk_alloc ?_ _)); refine blk_put (cs := #[.int .u64 x306000_14, .int .u64 x306001_14, .int .u8 x306002_14, .int .u8 x306003_14, .int .u8 x306004_14, .int .u8 x306005_14, .int .u8 x306006_14, .int .u8 x306007_14, .int .u8 x306008_14, .int .u8 x306009_14, .int .u8 x306010_14, .int .u8 x306011_14, .string x306012_14]) ?_ 0 _ rfl; (with_reducible repeat (first | refine blk_drewN ?_ _ | refine blk_drew ?_ | refine blk_alloc ?_ _)); exact BK305.out) Try.underlying27 rfl (by kernel_rfl)) rfl ?_
                  exact ⟨by first | rfl | (simp [errW_none, errW_some] <;> rfl) | (simp only [← hji10]; first | rfl | (simp [errW_none, errW_some] <;> rfl)) | (simp [*, errW_none, errW_some] <;> rfl), by repeat (first | (with_reducible first | exact HB.out | apply below_alloc | apply pw_below_drewN | apply below_drew1 | refine below_set ?_ GE305.out | refine below_set ?_ GE306.out) | exact HB.out)⟩
                 ·replace c84 := Bool.eq_false_iff.mpr c84
                  subst c84
                  have H1 : (some (0, 0, 0, 0, 0, 0, 0, 0, 0, 0, 0, 0, (⟨#[]⟩ : ByteArray), false)) = some (r1, r2, r3, r4, r5, r6, r7, r8, r9, r10, r11, r12, r13, r14) := by rw [if_neg (show ¬ (false = true) by decide)] at H; exact H
                  clear H
                  have H := H1
                  clear H1
                  simp only [Option.some.injEq, Prod.mk.injEq] at H
                  obtain ⟨rfl, rfl, rfl, rfl, rfl, rfl, rfl, rfl, rfl, rfl, rfl, rfl, rfl, rfl⟩ := H
                  go_wp2_with (first | ((with_reducible refine gate_callee (f := 30) rfl ?_); refine goesL_ (some 92) rfl rfl Try.func30 (by kernel_rfl) rfl #[.string (a0.extract (x10_14 : Int).toNat a0.size)] rfl (by (try simp only [List.map_toArray, List.map_cons, List.map_nil]); first | done | rfl | (simp only [List.length_drop, List.length_take]; rfl)) ?_; (with_reducible refine (wapentakeref01_ReadS.calls kj70 (a0.extract (x10_14 : Int).toNat a0.size) t313 t314 true _ A80.out).mono ?_); rintro e w91 ⟨rfl, hb⟩; refine ⟨_, rfl, ?_⟩; have n0_ := Aside0.mk (blk_below (g := gb305) (o := .cells #[.int .u64 x306000_14, .int .u64 x306001_14, .int .u8 x306002_14, .int .u8 x306003_14, .int .u8 x306004_14, .int .u8 x306005_14, .int .u8 x306006_14, .int .u8 x306007_14, .int .u8 x306008_14, .int .u8 x306009_14, .int .u8 x306010_14, .int .u8 x306011_14, .string x306012_14] 27 (0, 0)) (by (with_reducible repeat (first | refine blk_drewN ?_ _ | refine blk_drew ?_ | refine blk_alloc ?_ _)); exact BK305.out) hb); have n1_ := Aside0.mk (blk_below (g := gb306) (o := .cells #[.int .u64 t307, .int .u64 t310, .int .u8 (bt a0 0), .int .u8 x307003_14, .int .u8 x307004_14, .int .u8 x307005_14, .int .u8 x307006_14, .int .u8 x307007_14, .int .u8 x307008_14, .int .u8 x307009_14, .int .u8 x307010_14, .int .u8 x307011_14, .string (⟨#[]⟩ : ByteArray)] 27 (0, 0)) (by (with_reducible repeat (first | refine blk_drewN ?_ _ | refine blk_drew ?_ | refine blk_alloc ?_ _)); exact BK306.out) hb); have n2_ := Aside0.mk (below_step (by repeat (first | (with_reducible first | exact HB.out | apply below_alloc | apply pw_below_drewN | apply below_drew1 | refine below_set ?_ GE305.out | refine below_set ?_ GE306.out) | exact HB.out)) hb); clear BK305; clear BK306; clear HB; have BK305 := n0_; have BK306 := n1_; have HB := n2_; clear n0_ n1_ n2_; (try clear hb); (try clear hb2); (try clear hk); (try clear hi); have hnb92 := NB306_305.out; have hnc92 := NB305_306.out; have hcz93_0 : w91.cell? ⟨gb306, 0, none⟩ = some (.int .u64 t307) := (blk_cell BK306.out 0).trans rfl; have hcz93_1 : w91.cell? ⟨gb306, 1, none⟩ = some (.int .u64 t310) := (blk_cell BK306.out 1).trans rfl; have hcz93_2 : w91.cell? ⟨gb306, 2, none⟩ = some (.int .u8 (bt a0 0)) := (blk_cell BK306.out 2).trans rfl; have hcz93_3 : w91.cell? ⟨gb306, 3, none⟩ = some (.int .u8 x307003_14) := (blk_cell BK306.out 3).trans rfl; have hcz93_4 : w91.cell? ⟨gb306, 4, none⟩ = some (.int .u8 x307004_14) := (blk_cell BK306.out 4).trans rfl; have hcz93_5 : w91.cell? ⟨gb306, 5, none⟩ = some (.int .u8 x307005_14) := (blk_cell BK306.out 5).trans rfl; have hcz93_6 : w91.cell? ⟨gb306, 6, none⟩ = some (.int .u8 x307006_14) := (blk_cell BK306.out 6).trans rfl; have hcz93_7 : w91.cell? ⟨gb306, 7, none⟩ = some (.int .u8 x307007_14) := (blk_cell BK306.out 7).trans rfl; have hcz93_8 : w91.cell? ⟨gb306, 8, none⟩ = some (.int .u8 x307008_14) := (blk_cell BK306.out 8).trans rfl; have hcz93_9 : w91.cell? ⟨gb306, 9, none⟩ = some (.int .u8 x307009_14) := (blk_cell BK306.out 9).trans rfl; have hcz93_10 : w91.cell? ⟨gb306, 10, none⟩ = some (.int .u8 x307010_14) := (blk_cell BK306.out 10).trans rfl; have hcz93_11 : w91.cell? ⟨gb306, 11, none⟩ = some (.int .u8 x307011_14) := (blk_cell BK306.out 11).trans rfl; have hcz93_12 : w91.cell? ⟨gb306, 12, none⟩ = some (.string (⟨#[]⟩ : ByteArray)) := (blk_cell BK306.out 12).trans rfl; have hfz93_0 := blk_frozen BK306.out 0; have hfz93_1 := blk_frozen BK306.out 1; have hfz93_2 := blk_frozen BK306.out 2; have hfz93_3 := blk_frozen BK306.out 3; have hfz93_4 := blk_frozen BK306.out 4; have hfz93_5 := blk_frozen BK306.out 5; have hfz93_6 := blk_frozen BK306.out 6; have hfz93_7 := blk_frozen BK306.out 7; have hfz93_8 := blk_frozen BK306.out 8; have hfz93_9 := blk_frozen BK306.out 9; have hfz93_10 := blk_frozen BK306.out 10; have hfz93_11 := blk_frozen BK306.out 11; have hfz93_12 := blk_frozen BK306.out 12) | (go_at_call 15; (with_reducible refine (wapentakeref04_Right.calls kj70 t307 t310 (bt a0 0) x307003_14 x307004_14 x307005_14 x307006_14 x307007_14 x307008_14 x307009_14 x307010_14 x307011_14 t313 false _ A83.out).mono ?_); rintro e w94 ⟨rfl, hb⟩; have n0_ := Aside0.mk (blk_below (g := gb305) (o := .cells #[.int .u64 x306000_14, .int .u64 x306001_14, .int .u8 x306002_14, .int .u8 x306003_14, .int .u8 x306004_14, .int .u8 x306005_14, .int .u8 x306006_14, .int .u8 x306007_14, .int .u8 x306008_14, .int .u8 x306009_14, .int .u8 x306010_14, .int .u8 x306011_14, .string x306012_14] 27 (0, 0)) (by (with_reducible repeat (first | refine blk_drewN ?_ _ | refine blk_drew ?_ | refine blk_alloc ?_ _)); refine blk_far ?_ NB305_306.out _; (with_reducible repeat (first | refine blk_drewN ?_ _ | refine blk_drew ?_ | refine blk_alloc ?_ _)); exact BK305.out) hb); have n1_ := Aside0.mk (blk_below (g := gb306) (o := .cells #[.int .u64 t307, .int .u64 t310, .int .u8 (bt a0 0), .int .u8 x307003_14, .int .u8 x307004_14, .int .u8 x307005_14, .int .u8 x307006_14, .int .u8 x307007_14, .int .u8 x307008_14, .int .u8 x307009_14, .int .u8 x307010_14, .int .u8 x307011_14, .string t313] 27 (0, 0)) (by (with_reducible repeat (first | refine blk_drewN ?_ _ | refine blk_drew ?_ | refine blk_alloc ?_ _)); refine blk_put (cs := #[.int .u64 t307, .int .u64 t310, .int .u8 (bt a0 0), .int .u8 x307003_14, .int .u8 x307004_14, .int .u8 x307005_14, .int .u8 x307006_14, .int .u8 x307007_14, .int .u8 x307008_14, .int .u8 x307009_14, .int .u8 x307010_14, .int .u8 x307011_14, .string (⟨#[]⟩ : ByteArray)]) ?_ 12 _ rfl; (with_reducible repeat (first | refine blk_drewN ?_ _ | refine blk_drew ?_ | refine blk_alloc ?_ _)); exact BK306.out) hb); have n2_ := Aside0.mk (below_step (by repeat (first | (with_reducible first | exact HB.out | apply below_alloc | apply pw_below_drewN | apply below_drew1 | refine below_set ?_ GE305.out | refine below_set ?_ GE306.out) | exact HB.out)) hb); clear BK305; clear BK306; clear HB; have BK305 := n0_; have BK306 := n1_; have HB := n2_; clear n0_ n1_ n2_; (try clear hb); (try clear hb2); (try clear hk); (try clear hi); have hcz95_0 : w94.cell? ⟨gb305, 0, none⟩ = some (.int .u64 x306000_14) := (blk_cell BK305.out 0).trans rfl; have hcz95_1 : w94.cell? ⟨gb305, 1, none⟩ = some (.int .u64 x306001_14) := (blk_cell BK305.out 1).trans rfl; have hcz95_2 : w94.cell? ⟨gb305, 2, none⟩ = some (.int .u8 x306002_14) := (blk_cell BK305.out 2).trans rfl; have hcz95_3 : w94.cell? ⟨gb305, 3, none⟩ = some (.int .u8 x306003_14) := (blk_cell BK305.out 3).trans rfl; have hcz95_4 : w94.cell? ⟨gb305, 4, none⟩ = some (.int .u8 x306004_14) := (blk_cell BK305.out 4).trans rfl; have hcz95_5 : w94.cell? ⟨gb305, 5, none⟩ = some (.int .u8 x306005_14) := (blk_cell BK305.out 5).trans rfl; have hcz95_6 : w94.cell? ⟨gb305, 6, none⟩ = some (.int .u8 x306006_14) := (blk_cell BK305.out 6).trans rfl; have hcz95_7 : w94.cell? ⟨gb305, 7, none⟩ = some (.int .u8 x306007_14) := (blk_cell BK305.out 7).trans rfl; have hcz95_8 : w94.cell? ⟨gb305, 8, none⟩ = some (.int .u8 x306008_14) := (blk_cell BK305.out 8).trans rfl; have hcz95_9 : w94.cell? ⟨gb305, 9, none⟩ = some (.int .u8 x306009_14) := (blk_cell BK305.out 9).trans rfl; have hcz95_10 : w94.cell? ⟨gb305, 10, none⟩ = some (.int .u8 x306010_14) := (blk_cell BK305.out 10).trans rfl; have hcz95_11 : w94.cell? ⟨gb305, 11, none⟩ = some (.int .u8 x306011_14) := (blk_cell BK305.out 11).trans rfl; have hcz95_12 : w94.cell? ⟨gb305, 12, none⟩ = some (.string x306012_14) := (blk_cell BK305.out 12).trans rfl; have hfz95_0 := blk_frozen BK305.out 0; have hfz95_1 := blk_frozen BK305.out 1; have hfz95_2 := blk_frozen BK305.out 2; have hfz95_3 := blk_frozen BK305.out 3; have hfz95_4 := blk_frozen BK305.out 4; have hfz95_5 := blk_frozen BK305.out 5; have hfz95_6 := blk_frozen BK305.out 6; have hfz95_7 := blk_frozen BK305.out 7; have hfz95_8 := blk_frozen BK305.out 8; have hfz95_9 := blk_frozen BK305.out 9; have hfz95_10 := blk_frozen BK305.out 10; have hfz95_11 := blk_frozen BK305.out 11; have hfz95_12 := blk_frozen BK305.out 12))
                  refine bodyPost_ret (results_ct rfl _ _ gb305 27 #[.int .u64 0, .int .u64 0, .int .u8 0, .int .u8 0, .int .u8 0, .int .u8 0, .int .u8 0, .int .u8 0, .int .u8 0, .int .u8 0, .int .u8 0, .int .u8 0, .string (⟨#[]⟩ : ByteArray)] (0, 0) _ rfl (by (with_reducible repeat (first | refine blk_drewN ?_ _ | refine blk_drew ?_ | refine blk_alloc ?_ _)); refine blk_put (cs := #[.int .u64 0, .int .u64 0, .int .u8 0, .int .u8 0, .int .u8 0, .int .u8 0, .int .u8 0, .int .u8 0, .int .u8 0, .int .u8 0, .int .u8 0, .int .u8 0, .string x306012_14]) ?_ 12 _ rfl; (with_reducible repeat (first | refine blk_drewN ?_ _ | refine blk_drew ?_ | refine blk_alloc ?_ _)); refine blk_put (cs := #[.int .u64 0, .int .u64 0, .int .u8 0, .int .u8 0, .int .u8 0, .int .u8 0, .int .u8 0, .int .u8 0, .int .u8 0, .int .u8 0, .int .u8 0, .int .u8 x306011_14, .string x306012_14]) ?_ 11 _ rfl; (with_reducible repeat (first | refine blk_drewN ?_ _ | refine blk_drew ?_ | refine blk_alloc ?_ _)); refine blk_put (cs := #[.int .u64 0, .int .u64 0, .int .u8 0, .int .u8 0, .int .u8 0, .int .u8 0, .int .u8 0, .int .u8 0, .int .u8 0, .int .u8 0, .int .u8 x306010_14, .int .u8 x306011_14, .string x306012_14]) ?_ 10 _ rfl; (with_reducible repeat (first | refine blk_drewN ?_ _ | refine blk_drew ?_ | refine blk_alloc ?_ _)); refine blk_put (cs := #[.int .u64 0, .int .u64 0, .int .u8 0, .int .u8 0, .int .u8 0, .int .u8 0, .int .u8 0, .int .u8 0, .int .u8 0, .int .u8 x306009_14, .int .u8 x306010_14, .int .u8 x306011_14, .string x306012_14]) ?_ 9 _ rfl; (with_reducible repeat (first | refine blk_drewN ?_ _ | refine blk_drew ?_ | refine blk_alloc ?_ _)); refine blk_put (cs := #[.int .u64 0, .int .u64 0, .int .u8 0, .int .u8 0, .int .u8 0, .int .u8 0, .int .u8 0, .int .u8 0, .int .u8 x306008_14, .int .u8 x306009_14, .int .u8 x306010_14, .int .u8 x306011_14, .string x306012_14]) ?_ 8 _ rfl; (with_reducible repeat (first | refine blk_drewN ?_ _ | refine blk_drew ?_ | refine blk_alloc ?_ _)); refine blk_put (cs := #[.int .u64 0, .int .u64 0, .int .u8 0, .int .u8 0, .int .u8 0, .int .u8 0, .int .u8 0, .int .u8 x306007_14, .int .u8 x306008_14, .int .u8 x306009_14, .int .u8 x306010_14, .int .u8 x306011_14, .string x306012_14]) ?_ 7 _ rfl; (with_reducible repeat (first | refine blk_drewN ?_ _ | refine blk_drew ?_ | refine blk_alloc ?_ _)); refine blk_put (cs := #[.int .u64 0, .int .u64 0, .int .u8 0, .int .u8 0, .int .u8 0, .int .u8 0, .int .u8 x306006_14, .int .u8 x306007_14, .int .u8 x306008_14, .int .u8 x306009_14, .int .u8 x306010_14, .int .u8 x306011_14, .string x306012_14]) ?_ 6 _ rfl; (with_reducible repeat (first | refine blk_drewN ?_ _ | refine blk_drew ?_ | refine blk_alloc ?_ _)); refine blk_put (cs := #[.int .u64 0, .int .u64 0, .int .u8 0, .int .u8 0, .int .u8 0, .int .u8 x306005_14, .int .u8 x306006_14, .int .u8 x306007_14, .int .u8 x306008_14, .int .u8 x306009_14, .int .u8 x306010_14, .int .u8 x306011_14, .string x306012_14]) ?_ 5 _ rfl; (with_reducible repeat (first | refine blk_drewN ?_ _ | refine blk_drew ?_ | refine blk_alloc ?_ _)); refine blk_put (cs := #[.int .u64 0, .int .u64 0, .int .u8 0, .int .u8 0, .int .u8 x306004_14, .int .u8 x306005_14, .int .u8 x306006_14, .int .u8 x306007_14, .int .u8 x306008_14, .int .u8 x306009_14, .int .u8 x306010_14, .int .u8 x306011_14, .string x306012_14]) ?_ 4 _ rfl; (with_reducible repeat (first | refine blk_drewN ?_ _ | refine blk_drew ?_ | refine blk_alloc ?_ _)); refine blk_put (cs := #[.int .u64 0, .int .u64 0, .int .u8 0, .int .u8 x306003_14, .int .u8 x306004_14, .int .u8 x306005_14, .int .u8 x306006_14, .int .u8 x306007_14, .int .u8 x306008_14, .int .u8 x306009_14, .int .u8 x306010_14, .int .u8 x306011_14, .string x306012_14]) ?_ 3 _ rfl; (with_reducible repeat (first | refine blk_drewN ?_ _ | refine blk_drew ?_ | refine blk_alloc ?_ _)); refine blk_put (cs := #[.int .u64 0, .int .u64 0, .int .u8 x306002_14, .int .u8 x306003_14, .int .u8 x306004_14, .int .u8 x306005_14, .int .u8 x306006_14, .int .u8 x306007_14, .int .u8 x306008_14, .int .u8 x306009_14, .int .u8 x306010_14, .int .u8 x306011_14, .string x306012_14]) ?_ 2 _ rfl; (with_reducible repeat (first | refine blk_drewN ?_ _ | refine blk_drew ?_ | refine blk_alloc ?_ _)); refine blk_put (cs := #[.int .u64 0, .int .u64 x306001_14, .int .u8 x306002_14, .int .u8 x306003_14, .int .u8 x306004_14, .int .u8 x306005_14, .int .u8 x306006_14, .int .u8 x306007_14, .int .u8 x306008_14, .int .u8 x306009_14, .int .u8 x306010_14, .int .u8 x306011_14, .string x306012_14]) ?_ 1 _ rfl; (with_reducible repeat (first | refine blk_drewN ?_ _ | refine blk_drew ?_ | refine blk_alloc ?_ _)); refine blk_put (cs := #[.int .u64 x306000_14, .int .u64 x306001_14, .int .u8 x306002_14, .int .u8 x306003_14, .int .u8 x306004_14, .int .u8 x306005_14, .int .u8 x306006_14, .int .u8 x306007_14, .int .u8 x306008_14, .int .u8 x306009_14, .int .u8 x306010_14, .int .u8 x306011_14, .string x306012_14]) ?_ 0 _ rfl; (with_reducible repeat (first | refine blk_drewN ?_ _ | refine blk_drew ?_ | refine blk_alloc ?_ _)); exact BK305.out) Try.underlying27 rfl (by kernel_rfl)) rfl ?_
                  exact ⟨by first | rfl | (simp [errW_none, errW_some] <;> rfl) | (simp only [← hji10]; first | rfl | (simp [errW_none, errW_some] <;> rfl)) | (simp [*, errW_none, errW_some] <;> rfl), by repeat (first | (with_reducible first | exact HB.out | apply below_alloc | apply pw_below_drewN | apply below_drew1 | refine below_set ?_ GE305.out | refine below_set ?_ GE306.out) | exact HB.out)⟩
                ·rw [if_neg c82] at H
                 have c82b0 : ((wrap64 (x10_14 + t314)) == (a0.size : Int)) = false := beq_eq_false_iff_ne.mpr c82
                 have c82b1 : ((wrap64 (x10_14 + t314)) != (a0.size : Int)) = true := bne_iff_ne.mpr c82
                 simp only [Option.some.injEq, Prod.mk.injEq] at H
                 obtain ⟨rfl, rfl, rfl, rfl, rfl, rfl, rfl, rfl, rfl, rfl, rfl, rfl, rfl, rfl⟩ := H
                 go_wp2_with (first | ((with_reducible refine gate_callee (f := 30) rfl ?_); refine goesL_ (some 92) rfl rfl Try.func30 (by kernel_rfl) rfl #[.string (a0.extract (x10_14 : Int).toNat a0.size)] rfl (by (try simp only [List.map_toArray, List.map_cons, List.map_nil]); first | done | rfl | (simp only [List.length_drop, List.length_take]; rfl)) ?_; (with_reducible refine (wapentakeref01_ReadS.calls kj70 (a0.extract (x10_14 : Int).toNat a0.size) t313 t314 true _ A80.out).mono ?_); rintro e w96 ⟨rfl, hb⟩; refine ⟨_, rfl, ?_⟩; have n0_ := Aside0.mk (blk_below (g := gb305) (o := .cells #[.int .u64 x306000_14, .int .u64 x306001_14, .int .u8 x306002_14, .int .u8 x306003_14, .int .u8 x306004_14, .int .u8 x306005_14, .int .u8 x306006_14, .int .u8 x306007_14, .int .u8 x306008_14, .int .u8 x306009_14, .int .u8 x306010_14, .int .u8 x306011_14, .string x306012_14] 27 (0, 0)) (by (with_reducible repeat (first | refine blk_drewN ?_ _ | refine blk_drew ?_ | refine blk_alloc ?_ _)); exact BK305.out) hb); have n1_ := Aside0.mk (blk_below (g := gb306) (o := .cells #[.int .u64 t307, .int .u64 t310, .int .u8 (bt a0 0), .int .u8 x307003_14, .int .u8 x307004_14, .int .u8 x307005_14, .int .u8 x307006_14, .int .u8 x307007_14, .int .u8 x307008_14, .int .u8 x307009_14, .int .u8 x307010_14, .int .u8 x307011_14, .string (⟨#[]⟩ : ByteArray)] 27 (0, 0)) (by (with_reducible repeat (first | refine blk_drewN ?_ _ | refine blk_drew ?_ | refine blk_alloc ?_ _)); exact BK306.out) hb); have n2_ := Aside0.mk (below_step (by repeat (first | (with_reducible first | exact HB.out | apply below_alloc | apply pw_below_drewN | apply below_drew1 | refine below_set ?_ GE305.out | refine below_set ?_ GE306.out) | exact HB.out)) hb); clear BK305; clear BK306; clear HB; have BK305 := n0_; have BK306 := n1_; have HB := n2_; clear n0_ n1_ n2_; (try clear hb); (try clear hb2); (try clear hk); (try clear hi); have hnb97 := NB306_305.out; have hnc97 := NB305_306.out; have hcz98_0 : w96.cell? ⟨gb306, 0, none⟩ = some (.int .u64 t307) := (blk_cell BK306.out 0).trans rfl; have hcz98_1 : w96.cell? ⟨gb306, 1, none⟩ = some (.int .u64 t310) := (blk_cell BK306.out 1).trans rfl; have hcz98_2 : w96.cell? ⟨gb306, 2, none⟩ = some (.int .u8 (bt a0 0)) := (blk_cell BK306.out 2).trans rfl; have hcz98_3 : w96.cell? ⟨gb306, 3, none⟩ = some (.int .u8 x307003_14) := (blk_cell BK306.out 3).trans rfl; have hcz98_4 : w96.cell? ⟨gb306, 4, none⟩ = some (.int .u8 x307004_14) := (blk_cell BK306.out 4).trans rfl; have hcz98_5 : w96.cell? ⟨gb306, 5, none⟩ = some (.int .u8 x307005_14) := (blk_cell BK306.out 5).trans rfl; have hcz98_6 : w96.cell? ⟨gb306, 6, none⟩ = some (.int .u8 x307006_14) := (blk_cell BK306.out 6).trans rfl; have hcz98_7 : w96.cell? ⟨gb306, 7, none⟩ = some (.int .u8 x307007_14) := (blk_cell BK306.out 7).trans rfl; have hcz98_8 : w96.cell? ⟨gb306, 8, none⟩ = some (.int .u8 x307008_14) := (blk_cell BK306.out 8).trans rfl; have hcz98_9 : w96.cell? ⟨gb306, 9, none⟩ = some (.int .u8 x307009_14) := (blk_cell BK306.out 9).trans rfl; have hcz98_10 : w96.cell? ⟨gb306, 10, none⟩ = some (.int .u8 x307010_14) := (blk_cell BK306.out 10).trans rfl; have hcz98_11 : w96.cell? ⟨gb306, 11, none⟩ = some (.int .u8 x307011_14) := (blk_cell BK306.out 11).trans rfl; have hcz98_12 : w96.cell? ⟨gb306, 12, none⟩ = some (.string (⟨#[]⟩ : ByteArray)) := (blk_cell BK306.out 12).trans rfl; have hfz98_0 := blk_frozen BK306.out 0; have hfz98_1 := blk_frozen BK306.out 1; have hfz98_2 := blk_frozen BK306.out 2; have hfz98_3 := blk_frozen BK306.out 3; have hfz98_4 := blk_frozen BK306.out 4; have hfz98_5 := blk_frozen BK306.out 5; have hfz98_6 := blk_frozen BK306.out 6; have hfz98_7 := blk_frozen BK306.out 7; have hfz98_8 := blk_frozen BK306.out 8; have hfz98_9 := blk_frozen BK306.out 9; have hfz98_10 := blk_frozen BK306.out 10; have hfz98_11 := blk_frozen BK306.out 11; have hfz98_12 := blk_frozen BK306.out 12; have hcz99_0 : w96.cell? ⟨gb305, 0, none⟩ = some (.int .u64 x306000_14) := (blk_cell BK305.out 0).trans rfl; have hcz99_1 : w96.cell? ⟨gb305, 1, none⟩ = some (.int .u64 x306001_14) := (blk_cell BK305.out 1).trans rfl; have hcz99_2 : w96.cell? ⟨gb305, 2, none⟩ = some (.int .u8 x306002_14) := (blk_cell BK305.out 2).trans rfl; have hcz99_3 : w96.cell? ⟨gb305, 3, none⟩ = some (.int .u8 x306003_14) := (blk_cell BK305.out 3).trans rfl; have hcz99_4 : w96.cell? ⟨gb305, 4, none⟩ = some (.int .u8 x306004_14) := (blk_cell BK305.out 4).trans rfl; have hcz99_5 : w96.cell? ⟨gb305, 5, none⟩ = some (.int .u8 x306005_14) := (blk_cell BK305.out 5).trans rfl; have hcz99_6 : w96.cell? ⟨gb305, 6, none⟩ = some (.int .u8 x306006_14) := (blk_cell BK305.out 6).trans rfl; have hcz99_7 : w96.cell? ⟨gb305, 7, none⟩ = some (.int .u8 x306007_14) := (blk_cell BK305.out 7).trans rfl; have hcz99_8 : w96.cell? ⟨gb305, 8, none⟩ = some (.int .u8 x306008_14) := (blk_cell BK305.out 8).trans rfl; have hcz99_9 : w96.cell? ⟨gb305, 9, none⟩ = some (.int .u8 x306009_14) := (blk_cell BK305.out 9).trans rfl; have hcz99_10 : w96.cell? ⟨gb305, 10, none⟩ = some (.int .u8 x306010_14) := (blk_cell BK305.out 10).trans rfl; have hcz99_11 : w96.cell? ⟨gb305, 11, none⟩ = some (.int .u8 x306011_14) := (blk_cell BK305.out 11).trans rfl; have hcz99_12 : w96.cell? ⟨gb305, 12, none⟩ = some (.string x306012_14) := (blk_cell BK305.out 12).trans rfl; have hfz99_0 := blk_frozen BK305.out 0; have hfz99_1 := blk_frozen BK305.out 1; have hfz99_2 := blk_frozen BK305.out 2; have hfz99_3 := blk_frozen BK305.out 3; have hfz99_4 := blk_frozen BK305.out 4; have hfz99_5 := blk_frozen BK305.out 5; have hfz99_6 := blk_frozen BK305.out 6; have hfz99_7 := blk_frozen BK305.out 7; have hfz99_8 := blk_frozen BK305.out 8; have hfz99_9 := blk_frozen BK305.out 9; have hfz99_10 := blk_frozen BK305.out 10; have hfz99_11 := blk_frozen BK305.out 11; have hfz99_12 := blk_frozen BK305.out 12))
                 refine bodyPost_ret (results_ct rfl _ _ gb305 27 #[.int .u64 0, .int .u64 0, .int .u8 0, .int .u8 0, .int .u8 0, .int .u8 0, .int .u8 0, .int .u8 0, .int .u8 0, .int .u8 0, .int .u8 0, .int .u8 0, .string (⟨#[]⟩ : ByteArray)] (0, 0) _ rfl (by (with_reducible repeat (first | refine blk_drewN ?_ _ | refine blk_drew ?_ | refine blk_alloc ?_ _)); refine blk_put (cs := #[.int .u64 0, .int .u64 0, .int .u8 0, .int .u8 0, .int .u8 0, .int .u8 0, .int .u8 0, .int .u8 0, .int .u8 0, .int .u8 0, .int .u8 0, .int .u8 0, .string x306012_14]) ?_ 12 _ rfl; (with_reducible repeat (first | refine blk_drewN ?_ _ | refine blk_drew ?_ | refine blk_alloc ?_ _)); refine blk_put (cs := #[.int .u64 0, .int .u64 0, .int .u8 0, .int .u8 0, .int .u8 0, .int .u8 0, .int .u8 0, .int .u8 0, .int .u8 0, .int .u8 0, .int .u8 0, .int .u8 x306011_14, .string x306012_14]) ?_ 11 _ rfl; (with_reducible repeat (first | refine blk_drewN ?_ _ | refine blk_drew ?_ | refine blk_alloc ?_ _)); refine blk_put (cs := #[.int .u64 0, .int .u64 0, .int .u8 0, .int .u8 0, .int .u8 0, .int .u8 0, .int .u8 0, .int .u8 0, .int .u8 0, .int .u8 0, .int .u8 x306010_14, .int .u8 x306011_14, .string x306012_14]) ?_ 10 _ rfl; (with_reducible repeat (first | refine blk_drewN ?_ _ | refine blk_drew ?_ | refine blk_alloc ?_ _)); refine blk_put (cs := #[.int .u64 0, .int .u64 0, .int .u8 0, .int .u8 0, .int .u8 0, .int .u8 0, .int .u8 0, .int .u8 0, .int .u8 0, .int .u8 x306009_14, .int .u8 x306010_14, .int .u8 x306011_14, .string x306012_14]) ?_ 9 _ rfl; (with_reducible repeat (first | refine blk_drewN ?_ _ | refine blk_drew ?_ | refine blk_alloc ?_ _)); refine blk_put (cs := #[.int .u64 0, .int .u64 0, .int .u8 0, .int .u8 0, .int .u8 0, .int .u8 0, .int .u8 0, .int .u8 0, .int .u8 x306008_14, .int .u8 x306009_14, .int .u8 x306010_14, .int .u8 x306011_14, .string x306012_14]) ?_ 8 _ rfl; (with_reducible repeat (first | refine blk_drewN ?_ _ | refine blk_drew ?_ | refine blk_alloc ?_ _)); refine blk_put (cs := #[.int .u64 0, .int .u64 0, .int .u8 0, .int .u8 0, .int .u8 0, .int .u8 0, .int .u8 0, .int .u8 x306007_14, .int .u8 x306008_14, .int .u8 x306009_14, .int .u8 x306010_14, .int .u8 x306011_14, .string x306012_14]) ?_ 7 _ rfl; (with_reducible repeat (first | refine blk_drewN ?_ _ | refine blk_drew ?_ | refine blk_alloc ?_ _)); refine blk_put (cs := #[.int .u64 0, .int .u64 0, .int .u8 0, .int .u8 0, .int .u8 0, .int .u8 0, .int .u8 x306006_14, .int .u8 x306007_14, .int .u8 x306008_14, .int .u8 x306009_14, .int .u8 x306010_14, .int .u8 x306011_14, .string x306012_14]) ?_ 6 _ rfl; (with_reducible repeat (first | refine blk_drewN ?_ _ | refine blk_drew ?_ | refine blk_alloc ?_ _)); refine blk_put (cs := #[.int .u64 0, .int .u64 0, .int .u8 0, .int .u8 0, .int .u8 0, .int .u8 x306005_14, .int .u8 x306006_14, .int .u8 x306007_14, .int .u8 x306008_14, .int .u8 x306009_14, .int .u8 x306010_14, .int .u8 x306011_14, .string x306012_14]) ?_ 5 _ rfl; (with_reducible repeat (first | refine blk_drewN ?_ _ | refine blk_drew ?_ | refine blk_alloc ?_ _)); refine blk_put (cs := #[.int .u64 0, .int .u64 0, .int .u8 0, .int .u8 0, .int .u8 x306004_14, .int .u8 x306005_14, .int .u8 x306006_14, .int .u8 x306007_14, .int .u8 x306008_14, .int .u8 x306009_14, .int .u8 x306010_14, .int .u8 x306011_14, .string x306012_14]) ?_ 4 _ rfl; (with_reducible repeat (first | refine blk_drewN ?_ _ | refine blk_drew ?_ | refine blk_alloc ?_ _)); refine blk_put (cs := #[.int .u64 0, .int .u64 0, .int .u8 0, .int .u8 x306003_14, .int .u8 x306004_14, .int .u8 x306005_14, .int .u8 x306006_14, .int .u8 x306007_14, .int .u8 x306008_14, .int .u8 x306009_14, .int .u8 x306010_14, .int .u8 x306011_14, .string x306012_14]) ?_ 3 _ rfl; (with_reducible repeat (first | refine blk_drewN ?_ _ | refine blk_drew ?_ | refine blk_alloc ?_ _)); refine blk_put (cs := #[.int .u64 0, .int .u64 0, .int .u8 x306002_14, .int .u8 x306003_14, .int .u8 x306004_14, .int .u8 x306005_14, .int .u8 x306006_14, .int .u8 x306007_14, .int .u8 x306008_14, .int .u8 x306009_14, .int .u8 x306010_14, .int .u8 x306011_14, .string x306012_14]) ?_ 2 _ rfl; (with_reducible repeat (first | refine blk_drewN ?_ _ | refine blk_drew ?_ | refine blk_alloc ?_ _)); refine blk_put (cs := #[.int .u64 0, .int .u64 x306001_14, .int .u8 x306002_14, .int .u8 x306003_14, .int .u8 x306004_14, .int .u8 x306005_14, .int .u8 x306006_14, .int .u8 x306007_14, .int .u8 x306008_14, .int .u8 x306009_14, .int .u8 x306010_14, .int .u8 x306011_14, .string x306012_14]) ?_ 1 _ rfl; (with_reducible repeat (first | refine blk_drewN ?_ _ | refine blk_drew ?_ | refine blk_alloc ?_ _)); refine blk_put (cs := #[.int .u64 x306000_14, .int .u64 x306001_14, .int .u8 x306002_14, .int .u8 x306003_14, .int .u8 x306004_14, .int .u8 x306005_14, .int .u8 x306006_14, .int .u8 x306007_14, .int .u8 x306008_14, .int .u8 x306009_14, .int .u8 x306010_14, .int .u8 x306011_14, .string x306012_14]) ?_ 0 _ rfl; (with_reducible repeat (first | refine blk_drewN ?_ _ | refine blk_drew ?_ | refine blk_alloc ?_ _)); refine blk_far ?_ NB305_306.out _; (with_reducible repeat (first | refine blk_drewN ?_ _ | refine blk_drew ?_ | refine blk_alloc ?_ _)); exact BK305.out) Try.underlying27 rfl (by kernel_rfl)) rfl ?_
                 exact ⟨by first | rfl | (simp [errW_none, errW_some] <;> rfl) | (simp only [← hji10]; first | rfl | (simp [errW_none, errW_some] <;> rfl)) | (simp [*, errW_none, errW_some] <;> rfl), by repeat (first | (with_reducible first | exact HB.out | apply below_alloc | apply pw_below_drewN | apply below_drew1 | refine below_set ?_ GE305.out | refine below_set ?_ GE306.out) | exact HB.out)⟩
               ·replace c81 := Bool.eq_false_iff.mpr c81
                subst c81
                have H1 : (some (0, 0, 0, 0, 0, 0, 0, 0, 0, 0, 0, 0, (⟨#[]⟩ : ByteArray), false)) = some (r1, r2, r3, r4, r5, r6, r7, r8, r9, r10, r11, r12, r13, r14) := by rw [if_neg (show ¬ (false = true) by decide)] at H; exact H
                clear H
                have H := H1
                clear H1
                simp only [Option.some.injEq, Prod.mk.injEq] at H
                obtain ⟨rfl, rfl, rfl, rfl, rfl, rfl, rfl, rfl, rfl, rfl, rfl, rfl, rfl, rfl⟩ := H
                go_wp2_with (first | ((with_reducible refine gate_callee (f := 30) rfl ?_); refine goesL_ (some 92) rfl rfl Try.func30 (by kernel_rfl) rfl #[.string (a0.extract (x10_14 : Int).toNat a0.size)] rfl (by (try simp only [List.map_toArray, List.map_cons, List.map_nil]); first | done | rfl | (simp only [List.length_drop, List.length_take]; rfl)) ?_; (with_reducible refine (wapentakeref01_ReadS.calls kj70 (a0.extract (x10_14 : Int).toNat a0.size) t313 t314 false _ A80.out).mono ?_); rintro e w100 ⟨rfl, hb⟩; refine ⟨_, rfl, ?_⟩; have n0_ := Aside0.mk (blk_below (g := gb305) (o := .cells #[.int .u64 x306000_14, .int .u64 x306001_14, .int .u8 x306002_14, .int .u8 x306003_14, .int .u8 x306004_14, .int .u8 x306005_14, .int .u8 x306006_14, .int .u8 x306007_14, .int .u8 x306008_14, .int .u8 x306009_14, .int .u8 x306010_14, .int .u8 x306011_14, .string x306012_14] 27 (0, 0)) (by (with_reducible repeat (first | refine blk_drewN ?_ _ | refine blk_drew ?_ | refine blk_alloc ?_ _)); exact BK305.out) hb); have n1_ := Aside0.mk (blk_below (g := gb306) (o := .cells #[.int .u64 t307, .int .u64 t310, .int .u8 (bt a0 0), .int .u8 x307003_14, .int .u8 x307004_14, .int .u8 x307005_14, .int .u8 x307006_14, .int .u8 x307007_14, .int .u8 x307008_14, .int .u8 x307009_14, .int .u8 x307010_14, .int .u8 x307011_14, .string (⟨#[]⟩ : ByteArray)] 27 (0, 0)) (by (with_reducible repeat (first | refine blk_drewN ?_ _ | refine blk_drew ?_ | refine blk_alloc ?_ _)); exact BK306.out) hb); have n2_ := Aside0.mk (below_step (by repeat (first | (with_reducible first | exact HB.out | apply below_alloc | apply pw_below_drewN | apply below_drew1 | refine below_set ?_ GE305.out | refine below_set ?_ GE306.out) | exact HB.out)) hb); clear BK305; clear BK306; clear HB; have BK305 := n0_; have BK306 := n1_; have HB := n2_; clear n0_ n1_ n2_; (try clear hb); (try clear hb2); (try clear hk); (try clear hi); have hnb101 := NB305_306.out; have hnc101 := NB306_305.out; have hcz102_0 : w100.cell? ⟨gb305, 0, none⟩ = some (.int .u64 x306000_14) := (blk_cell BK305.out 0).trans rfl; have hcz102_1 : w100.cell? ⟨gb305, 1, none⟩ = some (.int .u64 x306001_14) := (blk_cell BK305.out 1).trans rfl; have hcz102_2 : w100.cell? ⟨gb305, 2, none⟩ = some (.int .u8 x306002_14) := (blk_cell BK305.out 2).trans rfl; have hcz102_3 : w100.cell? ⟨gb305, 3, none⟩ = some (.int .u8 x306003_14) := (blk_cell BK305.out 3).trans rfl; have hcz102_4 : w100.cell? ⟨gb305, 4, none⟩ = some (.int .u8 x306004_14) := (blk_cell BK305.out 4).trans rfl; have hcz102_5 : w100.cell? ⟨gb305, 5, none⟩ = some (.int .u8 x306005_14) := (blk_cell BK305.out 5).trans rfl; have hcz102_6 : w100.cell? ⟨gb305, 6, none⟩ = some (.int .u8 x306006_14) := (blk_cell BK305.out 6).trans rfl; have hcz102_7 : w100.cell? ⟨gb305, 7, none⟩ = some (.int .u8 x306007_14) := (blk_cell BK305.out 7).trans rfl; have hcz102_8 : w100.cell? ⟨gb305, 8, none⟩ = some (.int .u8 x306008_14) := (blk_cell BK305.out 8).trans rfl; have hcz102_9 : w100.cell? ⟨gb305, 9, none⟩ = some (.int .u8 x306009_14) := (blk_cell BK305.out 9).trans rfl; have hcz102_10 : w100.cell? ⟨gb305, 10, none⟩ = some (.int .u8 x306010_14) := (blk_cell BK305.out 10).trans rfl; have hcz102_11 : w100.cell? ⟨gb305, 11, none⟩ = some (.int .u8 x306011_14) := (blk_cell BK305.out 11).trans rfl; have hcz102_12 : w100.cell? ⟨gb305, 12, none⟩ = some (.string x306012_14) := (blk_cell BK305.out 12).trans rfl; have hfz102_0 := blk_frozen BK305.out 0; have hfz102_1 := blk_frozen BK305.out 1; have hfz102_2 := blk_frozen BK305.out 2; have hfz102_3 := blk_frozen BK305.out 3; have hfz102_4 := blk_frozen BK305.out 4; have hfz102_5 := blk_frozen BK305.out 5; have hfz102_6 := blk_frozen BK305.out 6; have hfz102_7 := blk_frozen BK305.out 7; have hfz102_8 := blk_frozen BK305.out 8; have hfz102_9 := blk_frozen BK305.out 9; have hfz102_10 := blk_frozen BK305.out 10; have hfz102_11 := blk_frozen BK305.out 11; have hfz102_12 := blk_frozen BK305.out 12))
                refine bodyPost_ret (results_ct rfl _ _ gb305 27 #[.int .u64 0, .int .u64 0, .int .u8 0, .int .u8 0, .int .u8 0, .int .u8 0, .int .u8 0, .int .u8 0, .int .u8 0, .int .u8 0, .int .u8 0, .int .u8 0, .string (⟨#[]⟩ : ByteArray)] (0, 0) _ rfl (by (with_reducible repeat (first | refine blk_drewN ?_ _ | refine blk_drew ?_ | refine blk_alloc ?_ _)); refine blk_put (cs := #[.int .u64 0, .int .u64 0, .int .u8 0, .int .u8 0, .int .u8 0, .int .u8 0, .int .u8 0, .int .u8 0, .int .u8 0, .int .u8 0, .int .u8 0, .int .u8 0, .string x306012_14]) ?_ 12 _ rfl; (with_reducible repeat (first | refine blk_drewN ?_ _ | refine blk_drew ?_ | refine blk_alloc ?_ _)); refine blk_put (cs := #[.int .u64 0, .int .u64 0, .int .u8 0, .int .u8 0, .int .u8 0, .int .u8 0, .int .u8 0, .int .u8 0, .int .u8 0, .int .u8 0, .int .u8 0, .int .u8 x306011_14, .string x306012_14]) ?_ 11 _ rfl; (with_reducible repeat (first | refine blk_drewN ?_ _ | refine blk_drew ?_ | refine blk_alloc ?_ _)); refine blk_put (cs := #[.int .u64 0, .int .u64 0, .int .u8 0, .int .u8 0, .int .u8 0, .int .u8 0, .int .u8 0, .int .u8 0, .int .u8 0, .int .u8 0, .int .u8 x306010_14, .int .u8 x306011_14, .string x306012_14]) ?_ 10 _ rfl; (with_reducible repeat (first | refine blk_drewN ?_ _ | refine blk_drew ?_ | refine blk_alloc ?_ _)); refine blk_put (cs := #[.int .u64 0, .int .u64 0, .int .u8 0, .int .u8 0, .int .u8 0, .int .u8 0, .int .u8 0, .int .u8 0, .int .u8 0, .int .u8 x306009_14, .int .u8 x306010_14, .int .u8 x306011_14, .string x306012_14]) ?_ 9 _ rfl; (with_reducible repeat (first | refine blk_drewN ?_ _ | refine blk_drew ?_ | refine blk_alloc ?_ _)); refine blk_put (cs := #[.int .u64 0, .int .u64 0, .int .u8 0, .int .u8 0, .int .u8 0, .int .u8 0, .int .u8 0, .int .u8 0, .int .u8 x306008_14, .int .u8 x306009_14, .int .u8 x306010_14, .int .u8 x306011_14, .string x306012_14]) ?_ 8 _ rfl; (with_reducible repeat (first | refine blk_drewN ?_ _ | refine blk_drew ?_ | refine blk_alloc ?_ _)); refine blk_put (cs := #[.int .u64 0, .int .u64 0, .int .u8 0, .int .u8 0, .int .u8 0, .int .u8 0, .int .u8 0, .int .u8 x306007_14, .int .u8 x306008_14, .int .u8 x306009_14, .int .u8 x306010_14, .int .u8 x306011_14, .string x306012_14]) ?_ 7 _ rfl; (with_reducible repeat (first | refine blk_drewN ?_ _ | refine blk_drew ?_ | refine blk_alloc ?_ _)); refine blk_put (cs := #[.int .u64 0, .int .u64 0, .int .u8 0, .int .u8 0, .int .u8 0, .int .u8 0, .int .u8 x306006_14, .int .u8 x306007_14, .int .u8 x306008_14, .int .u8 x306009_14, .int .u8 x306010_14, .int .u8 x306011_14, .string x306012_14]) ?_ 6 _ rfl; (with_reducible repeat (first | refine blk_drewN ?_ _ | refine blk_drew ?_ | refine blk_alloc ?_ _)); refine blk_put (cs := #[.int .u64 0, .int .u64 0, .int .u8 0, .int .u8 0, .int .u8 0, .int .u8 x306005_14, .int .u8 x306006_14, .int .u8 x306007_14, .int .u8 x306008_14, .int .u8 x306009_14, .int .u8 x306010_14, .int .u8 x306011_14, .string x306012_14]) ?_ 5 _ rfl; (with_reducible repeat (first | refine blk_drewN ?_ _ | refine blk_drew ?_ | refine blk_alloc ?_ _)); refine blk_put (cs := #[.int .u64 0, .int .u64 0, .int .u8 0, .int .u8 0, .int .u8 x306004_14, .int .u8 x306005_14, .int .u8 x306006_14, .int .u8 x306007_14, .int .u8 x306008_14, .int .u8 x306009_14, .int .u8 x306010_14, .int .u8 x306011_14, .string x306012_14]) ?_ 4 _ rfl; (with_reducible repeat (first | refine blk_drewN ?_ _ | refine blk_drew ?_ | refine blk_alloc ?_ _)); refine blk_put (cs := #[.int .u64 0, .int .u64 0, .int .u8 0, .int .u8 x306003_14, .int .u8 x306004_14, .int .u8 x306005_14, .int .u8 x306006_14, .int .u8 x306007_14, .int .u8 x306008_14, .int .u8 x306009_14, .int .u8 x306010_14, .int .u8 x306011_14, .string x306012_14]) ?_ 3 _ rfl; (with_reducible repeat (first | refine blk_drewN ?_ _ | refine blk_drew ?_ | refine blk_alloc ?_ _)); refine blk_put (cs := #[.int .u64 0, .int .u64 0, .int .u8 x306002_14, .int .u8 x306003_14, .int .u8 x306004_14, .int .u8 x306005_14, .int .u8 x306006_14, .int .u8 x306007_14, .int .u8 x306008_14, .int .u8 x306009_14, .int .u8 x306010_14, .int .u8 x306011_14, .string x306012_14]) ?_ 2 _ rfl; (with_reducible repeat (first | refine blk_drewN ?_ _ | refine blk_drew ?_ | refine blk_alloc ?_ _)); refine blk_put (cs := #[.int .u64 0, .int .u64 x306001_14, .int .u8 x306002_14, .int .u8 x306003_14, .int .u8 x306004_14, .int .u8 x306005_14, .int .u8 x306006_14, .int .u8 x306007_14, .int .u8 x306008_14, .int .u8 x306009_14, .int .u8 x306010_14, .int .u8 x306011_14, .string x306012_14]) ?_ 1 _ rfl; (with_reducible repeat (first | refine blk_drewN ?_ _ | refine blk_drew ?_ | refine blk_alloc ?_ _)); refine blk_put (cs := #[.int .u64 x306000_14, .int .u64 x306001_14, .int .u8 x306002_14, .int .u8 x306003_14, .int .u8 x306004_14, .int .u8 x306005_14, .int .u8 x306006_14, .int .u8 x306007_14, .int .u8 x306008_14, .int .u8 x306009_14, .int .u8 x306010_14, .int .u8 x306011_14, .string x306012_14]) ?_ 0 _ rfl; (with_reducible repeat (first | refine blk_drewN ?_ _ | refine blk_drew ?_ | refine blk_alloc ?_ _)); exact BK305.out) Try.underlying27 rfl (by kernel_rfl)) rfl ?_
                exact ⟨by first | rfl | (simp [errW_none, errW_some] <;> rfl) | (simp only [← hji10]; first | rfl | (simp [errW_none, errW_some] <;> rfl)) | (simp [*, errW_none, errW_some] <;> rfl), by repeat (first | (with_reducible first | exact HB.out | apply below_alloc | apply pw_below_drewN | apply below_drew1 | refine below_set ?_ GE305.out | refine below_set ?_ GE306.out) | exact HB.out)⟩
              ·rw [if_neg c79] at H
               exact absurd H (by simp)
             ·rw [if_neg c78] at H
              exact absurd H (by simp)
            ·replace c77 := Bool.eq_false_iff.mpr c77
             subst c77
             have H1 : (if x10_14 = (a0.size : Int) then ((wapentakeref04_Right.f kj70 t307 t310 (bt a0 0) x307003_14 x307004_14 x307005_14 x307006_14 x307007_14 x307008_14 x307009_14 x307010_14 x307011_14 (⟨#[]⟩ : ByteArray)).bind fun t317 => (if t317 = true then (some (t307, t310, (bt a0 0), x307003_14, x307004_14, x307005_14, x307006_14, x307007_14, x307008_14, x307009_14, x307010_14, x307011_14, (⟨#[]⟩ : ByteArray), true)) else (some (0, 0, 0, 0, 0, 0, 0, 0, 0, 0, 0, 0, (⟨#[]⟩ : ByteArray), false)))) else (some (0, 0, 0, 0, 0, 0, 0, 0, 0, 0, 0, 0, (⟨#[]⟩ : ByteArray), false))) = some (r1, r2, r3, r4, r5, r6, r7, r8, r9, r10, r11, r12, r13, r14) := by rw [if_neg (show ¬ (false = true) by decide)] at H; exact H
             clear H
             have H := H1
             clear H1
             by_cases c103 : x10_14 = (a0.size : Int)
             ·rw [if_pos c103] at H
              have c103b0 : (x10_14 == (a0.size : Int)) = true := beq_iff_eq.mpr c103
              have c103b1 : (x10_14 != (a0.size : Int)) = false := bne_eq_false_iff_eq.mpr c103
              clear c103
              replace H := Option.bind_eq_some_iff.mp H
              obtain ⟨t317, A1040, H⟩ := H
              replace H : (if t317 = true then (some (t307, t310, (bt a0 0), x307003_14, x307004_14, x307005_14, x307006_14, x307007_14, x307008_14, x307009_14, x307010_14, x307011_14, (⟨#[]⟩ : ByteArray), true)) else (some (0, 0, 0, 0, 0, 0, 0, 0, 0, 0, 0, 0, (⟨#[]⟩ : ByteArray), false))) = some (r1, r2, r3, r4, r5, r6, r7, r8, r9, r10, r11, r12, r13, r14) := H
              have A104 := Aside0.mk A1040
              clear A1040
              by_cases c105 : t317 = true
              ·subst c105
               have H1 : (some (t307, t310, (bt a0 0), x307003_14, x307004_14, x307005_14, x307006_14, x307007_14, x307008_14, x307009_14, x307010_14, x307011_14, (⟨#[]⟩ : ByteArray), true)) = some (r1, r2, r3, r4, r5, r6, r7, r8, r9, r10, r11, r12, r13, r14) := by rw [if_pos rfl] at H; exact H
               clear H
               have H := H1
               clear H1
               simp only [Option.some.injEq, Prod.mk.injEq] at H
               obtain ⟨rfl, rfl, rfl, rfl, rfl, rfl, rfl, rfl, rfl, rfl, rfl, rfl, rfl, rfl⟩ := H
               have hnb106 := NB306_305.out
               have hnc106 := NB305_306.out
               have hcz107_0 : wc.cell? ⟨gb306, 0, none⟩ = some (.int .u64 t307) := (blk_cell BK306.out 0).trans rfl
               have hcz107_1 : wc.cell? ⟨gb306, 1, none⟩ = some (.int .u64 t310) := (blk_cell BK306.out 1).trans rfl
               have hcz107_2 : wc.cell? ⟨gb306, 2, none⟩ = some (.int .u8 (bt a0 0)) := (blk_cell BK306.out 2).trans rfl
               have hcz107_3 : wc.cell? ⟨gb306, 3, none⟩ = some (.int .u8 x307003_14) := (blk_cell BK306.out 3).trans rfl
               have hcz107_4 : wc.cell? ⟨gb306, 4, none⟩ = some (.int .u8 x307004_14) := (blk_cell BK306.out 4).trans rfl
               have hcz107_5 : wc.cell? ⟨gb306, 5, none⟩ = some (.int .u8 x307005_14) := (blk_cell BK306.out 5).trans rfl
               have hcz107_6 : wc.cell? ⟨gb306, 6, none⟩ = some (.int .u8 x307006_14) := (blk_cell BK306.out 6).trans rfl
               have hcz107_7 : wc.cell? ⟨gb306, 7, none⟩ = some (.int .u8 x307007_14) := (blk_cell BK306.out 7).trans rfl
               have hcz107_8 : wc.cell? ⟨gb306, 8, none⟩ = some (.int .u8 x307008_14) := (blk_cell BK306.out 8).trans rfl
               have hcz107_9 : wc.cell? ⟨gb306, 9, none⟩ = some (.int .u8 x307009_14) := (blk_cell BK306.out 9).trans rfl
               have hcz107_10 : wc.cell? ⟨gb306, 10, none⟩ = some (.int .u8 x307010_14) := (blk_cell BK306.out 10).trans rfl
               have hcz107_11 : wc.cell? ⟨gb306, 11, none⟩ = some (.int .u8 x307011_14) := (blk_cell BK306.out 11).trans rfl
               have hcz107_12 : wc.cell? ⟨gb306, 12, none⟩ = some (.string (⟨#[]⟩ : ByteArray)) := (blk_cell BK306.out 12).trans rfl
               have hfz107_0 := blk_frozen BK306.out 0
               have hfz107_1 := blk_frozen BK306.out 1
               have hfz107_2 := blk_frozen BK306.out 2
               have hfz107_3 := blk_frozen BK306.out 3
               have hfz107_4 := blk_frozen BK306.out 4
               have hfz107_5 := blk_frozen BK306.out 5
               have hfz107_6 := blk_frozen BK306.out 6
               have hfz107_7 := blk_frozen BK306.out 7
               have hfz107_8 := blk_frozen BK306.out 8
               have hfz107_9 := blk_frozen BK306.out 9
               have hfz107_10 := blk_frozen BK306.out 10
               have hfz107_11 := blk_frozen BK306.out 11
               have hfz107_12 := blk_frozen BK306.out 12
               go_wp2_with (first | (go_at_call 15; (with_reducible refine (wapentakeref04_Right.calls kj70 t307 t310 (bt a0 0) x307003_14 x307004_14 x307005_14 x307006_14 x307007_14 x307008_14 x307009_14 x307010_14 x307011_14 (⟨#[]⟩ : ByteArray) true _ A104.out).mono ?_); rintro e w108 ⟨rfl, hb⟩; have n0_ := Aside0.mk (blk_below (g := gb305) (o := .cells #[.int .u64 x306000_14, .int .u64 x306001_14, .int .u8 x306002_14, .int .u8 x306003_14, .int .u8 x306004_14, .int .u8 x306005_14, .int .u8 x306006_14, .int .u8 x306007_14, .int .u8 x306008_14, .int .u8 x306009_14, .int .u8 x306010_14, .int .u8 x306011_14, .string x306012_14] 27 (0, 0)) (by (with_reducible repeat (first | refine blk_drewN ?_ _ | refine blk_drew ?_ | refine blk_alloc ?_ _)); exact BK305.out) hb); have n1_ := Aside0.mk (blk_below (g := gb306) (o := .cells #[.int .u64 t307, .int .u64 t310, .int .u8 (bt a0 0), .int .u8 x307003_14, .int .u8 x307004_14, .int .u8 x307005_14, .int .u8 x307006_14, .int .u8 x307007_14, .int .u8 x307008_14, .int .u8 x307009_14, .int .u8 x307010_14, .int .u8 x307011_14, .string (⟨#[]⟩ : ByteArray)] 27 (0, 0)) (by (with_reducible repeat (first | refine blk_drewN ?_ _ | refine blk_drew ?_ | refine blk_alloc ?_ _)); exact BK306.out) hb); have n2_ := Aside0.mk (below_step (by repeat (first | (with_reducible first | exact HB.out | apply below_alloc | apply pw_below_drewN | apply below_drew1 | refine below_set ?_ GE305.out | refine below_set ?_ GE306.out) | exact HB.out)) hb); clear BK305; clear BK306; clear HB; have BK305 := n0_; have BK306 := n1_; have HB := n2_; clear n0_ n1_ n2_; (try clear hb); (try clear hb2); (try clear hk); (try clear hi); have hcz109_0 : w108.cell? ⟨gb306, 0, none⟩ = some (.int .u64 t307) := (blk_cell BK306.out 0).trans rfl; have hcz109_1 : w108.cell? ⟨gb306, 1, none⟩ = some (.int .u64 t310) := (blk_cell BK306.out 1).trans rfl; have hcz109_2 : w108.cell? ⟨gb306, 2, none⟩ = some (.int .u8 (bt a0 0)) := (blk_cell BK306.out 2).trans rfl; have hcz109_3 : w108.cell? ⟨gb306, 3, none⟩ = some (.int .u8 x307003_14) := (blk_cell BK306.out 3).trans rfl; have hcz109_4 : w108.cell? ⟨gb306, 4, none⟩ = some (.int .u8 x307004_14) := (blk_cell BK306.out 4).trans rfl; have hcz109_5 : w108.cell? ⟨gb306, 5, none⟩ = some (.int .u8 x307005_14) := (blk_cell BK306.out 5).trans rfl; have hcz109_6 : w108.cell? ⟨gb306, 6, none⟩ = some (.int .u8 x307006_14) := (blk_cell BK306.out 6).trans rfl; have hcz109_7 : w108.cell? ⟨gb306, 7, none⟩ = some (.int .u8 x307007_14) := (blk_cell BK306.out 7).trans rfl; have hcz109_8 : w108.cell? ⟨gb306, 8, none⟩ = some (.int .u8 x307008_14) := (blk_cell BK306.out 8).trans rfl; have hcz109_9 : w108.cell? ⟨gb306, 9, none⟩ = some (.int .u8 x307009_14) := (blk_cell BK306.out 9).trans rfl; have hcz109_10 : w108.cell? ⟨gb306, 10, none⟩ = some (.int .u8 x307010_14) := (blk_cell BK306.out 10).trans rfl; have hcz109_11 : w108.cell? ⟨gb306, 11, none⟩ = some (.int .u8 x307011_14) := (blk_cell BK306.out 11).trans rfl; have hcz109_12 : w108.cell? ⟨gb306, 12, none⟩ = some (.string (⟨#[]⟩ : ByteArray)) := (blk_cell BK306.out 12).trans rfl; have hfz109_0 := blk_frozen BK306.out 0; have hfz109_1 := blk_frozen BK306.out 1; have hfz109_2 := blk_frozen BK306.out 2; have hfz109_3 := blk_frozen BK306.out 3; have hfz109_4 := blk_frozen BK306.out 4; have hfz109_5 := blk_frozen BK306.out 5; have hfz109_6 := blk_frozen BK306.out 6; have hfz109_7 := blk_frozen BK306.out 7; have hfz109_8 := blk_frozen BK306.out 8; have hfz109_9 := blk_frozen BK306.out 9; have hfz109_10 := blk_frozen BK306.out 10; have hfz109_11 := blk_frozen BK306.out 11; have hfz109_12 := blk_frozen BK306.out 12; have hcz110_0 : w108.cell? ⟨gb305, 0, none⟩ = some (.int .u64 x306000_14) := (blk_cell BK305.out 0).trans rfl; have hcz110_1 : w108.cell? ⟨gb305, 1, none⟩ = some (.int .u64 x306001_14) := (blk_cell BK305.out 1).trans rfl; have hcz110_2 : w108.cell? ⟨gb305, 2, none⟩ = some (.int .u8 x306002_14) := (blk_cell BK305.out 2).trans rfl; have hcz110_3 : w108.cell? ⟨gb305, 3, none⟩ = some (.int .u8 x306003_14) := (blk_cell BK305.out 3).trans rfl; have hcz110_4 : w108.cell? ⟨gb305, 4, none⟩ = some (.int .u8 x306004_14) := (blk_cell BK305.out 4).trans rfl; have hcz110_5 : w108.cell? ⟨gb305, 5, none⟩ = some (.int .u8 x306005_14) := (blk_cell BK305.out 5).trans rfl; have hcz110_6 : w108.cell? ⟨gb305, 6, none⟩ = some (.int .u8 x306006_14) := (blk_cell BK305.out 6).trans rfl; have hcz110_7 : w108.cell? ⟨gb305, 7, none⟩ = some (.int .u8 x306007_14) := (blk_cell BK305.out 7).trans rfl; have hcz110_8 : w108.cell? ⟨gb305, 8, none⟩ = some (.int .u8 x306008_14) := (blk_cell BK305.out 8).trans rfl; have hcz110_9 : w108.cell? ⟨gb305, 9, none⟩ = some (.int .u8 x306009_14) := (blk_cell BK305.out 9).trans rfl; have hcz110_10 : w108.cell? ⟨gb305, 10, none⟩ = some (.int .u8 x306010_14) := (blk_cell BK305.out 10).trans rfl; have hcz110_11 : w108.cell? ⟨gb305, 11, none⟩ = some (.int .u8 x306011_14) := (blk_cell BK305.out 11).trans rfl; have hcz110_12 : w108.cell? ⟨gb305, 12, none⟩ = some (.string x306012_14) := (blk_cell BK305.out 12).trans rfl; have hfz110_0 := blk_frozen BK305.out 0; have hfz110_1 := blk_frozen BK305.out 1; have hfz110_2 := blk_frozen BK305.out 2; have hfz110_3 := blk_frozen BK305.out 3; have hfz110_4 := blk_frozen BK305.out 4; have hfz110_5 := blk_frozen BK305.out 5; have hfz110_6 := blk_frozen BK305.out 6; have hfz110_7 := blk_frozen BK305.out 7; have hfz110_8 := blk_frozen BK305.out 8; have hfz110_9 := blk_frozen BK305.out 9; have hfz110_10 := blk_frozen BK305.out 10; have hfz110_11 := blk_frozen BK305.out 11; have hfz110_12 := blk_frozen BK305.out 12))
               refine bodyPost_ret (results_ct rfl _ _ gb305 27 #[.int .u64 t307, .int .u64 t310, .int .u8 (bt a0 0), .int .u8 x307003_14, .int .u8 x307004_14, .int .u8 x307005_14, .int .u8 x307006_14, .int .u8 x307007_14, .int .u8 x307008_14, .int .u8 x307009_14, .int .u8 x307010_14, .int .u8 x307011_14, .string (⟨#[]⟩ : ByteArray)] (0, 0) _ rfl (by (with_reducible repeat (first | refine blk_drewN ?_ _ | refine blk_drew ?_ | refine blk_alloc ?_ _)); refine blk_put (cs := #[.int .u64 t307, .int .u64 t310, .int .u8 (bt a0 0), .int .u8 x307003_14, .int .u8 x307004_14, .int .u8 x307005_14, .int .u8 x307006_14, .int .u8 x307007_14, .int .u8 x307008_14, .int .u8 x307009_14, .int .u8 x307010_14, .int .u8 x307011_14, .string x306012_14]) ?_ 12 _ rfl; (with_reducible repeat (first | refine blk_drewN ?_ _ | refine blk_drew ?_ | refine blk_alloc ?_ _)); refine blk_put (cs := #[.int .u64 t307, .int .u64 t310, .int .u8 (bt a0 0), .int .u8 x307003_14, .int .u8 x307004_14, .int .u8 x307005_14, .int .u8 x307006_14, .int .u8 x307007_14, .int .u8 x307008_14, .int .u8 x307009_14, .int .u8 x307010_14, .int .u8 x306011_14, .string x306012_14]) ?_ 11 _ rfl; (with_reducible repeat (first | refine blk_drewN ?_ _ | refine blk_drew ?_ | refine blk_alloc ?_ _)); refine blk_put (cs := #[.int .u64 t307, .int .u64 t310, .int .u8 (bt a0 0), .int .u8 x307003_14, .int .u8 x307004_14, .int .u8 x307005_14, .int .u8 x307006_14, .int .u8 x307007_14, .int .u8 x307008_14, .int .u8 x307009_14, .int .u8 x306010_14, .int .u8 x306011_14, .string x306012_14]) ?_ 10 _ rfl; (with_reducible repeat (first | refine blk_drewN ?_ _ | refine blk_drew ?_ | refine blk_alloc ?_ _)); refine blk_put (cs := #[.int .u64 t307, .int .u64 t310, .int .u8 (bt a0 0), .int .u8 x307003_14, .int .u8 x307004_14, .int .u8 x307005_14, .int .u8 x307006_14, .int .u8 x307007_14, .int .u8 x307008_14, .int .u8 x306009_14, .int .u8 x306010_14, .int .u8 x306011_14, .string x306012_14]) ?_ 9 _ rfl; (with_reducible repeat (first | refine blk_drewN ?_ _ | refine blk_drew ?_ | refine blk_alloc ?_ _)); refine blk_put (cs := #[.int .u64 t307, .int .u64 t310, .int .u8 (bt a0 0), .int .u8 x307003_14, .int .u8 x307004_14, .int .u8 x307005_14, .int .u8 x307006_14, .int .u8 x307007_14, .int .u8 x306008_14, .int .u8 x306009_14, .int .u8 x306010_14, .int .u8 x306011_14, .string x306012_14]) ?_ 8 _ rfl; (with_reducible repeat (first | refine blk_drewN ?_ _ | refine blk_drew ?_ | refine blk_alloc ?_ _)); refine blk_put (cs := #[.int .u64 t307, .int .u64 t310, .int .u8 (bt a0 0), .int .u8 x307003_14, .int .u8 x307004_14, .int .u8 x307005_14, .int .u8 x307006_14, .int .u8 x306007_14, .int .u8 x306008_14, .int .u8 x306009_14, .int .u8 x306010_14, .int .u8 x306011_14, .string x306012_14]) ?_ 7 _ rfl; (with_reducible repeat (first | refine blk_drewN ?_ _ | refine blk_drew ?_ | refine blk_alloc ?_ _)); refine blk_put (cs := #[.int .u64 t307, .int .u64 t310, .int .u8 (bt a0 0), .int .u8 x307003_14, .int .u8 x307004_14, .int .u8 x307005_14, .int .u8 x306006_14, .int .u8 x306007_14, .int .u8 x306008_14, .int .u8 x306009_14, .int .u8 x306010_14, .int .u8 x306011_14, .string x306012_14]) ?_ 6 _ rfl; (with_reducible repeat (first | refine blk_drewN ?_ _ | refine blk_drew ?_ | refine blk_alloc ?_ _)); refine blk_put (cs := #[.int .u64 t307, .int .u64 t310, .int .u8 (bt a0 0), .int .u8 x307003_14, .int .u8 x307004_14, .int .u8 x306005_14, .int .u8 x306006_14, .int .u8 x306007_14, .int .u8 x306008_14, .int .u8 x306009_14, .int .u8 x306010_14, .int .u8 x306011_14, .string x306012_14]) ?_ 5 _ rfl; (with_reducible repeat (first | refine blk_drewN ?_ _ | refine blk_drew ?_ | refine blk_alloc ?_ _)); refine blk_put (cs := #[.int .u64 t307, .int .u64 t310, .int .u8 (bt a0 0), .int .u8 x307003_14, .int .u8 x306004_14, .int .u8 x306005_14, .int .u8 x306006_14, .int .u8 x306007_14, .int .u8 x306008_14, .int .u8 x306009_14, .int .u8 x306010_14, .int .u8 x306011_14, .string x306012_14]) ?_ 4 _ rfl; (with_reducible repeat (first | refine blk_drewN ?_ _ | refine blk_drew ?_ | refine blk_alloc ?_ _)); refine blk_put (cs := #[.int .u64 t307, .int .u64 t310, .int .u8 (bt a0 0), .int .u8 x306003_14, .int .u8 x306004_14, .int .u8 x306005_14, .int .u8 x306006_14, .int .u8 x306007_14, .int .u8 x306008_14, .int .u8 x306009_14, .int .u8 x306010_14, .int .u8 x306011_14, .string x306012_14]) ?_ 3 _ rfl; (with_reducible repeat (first | refine blk_drewN ?_ _ | refine blk_drew ?_ | refine blk_alloc ?_ _)); refine blk_put (cs := #[.int .u64 t307, .int .u64 t310, .int .u8 x306002_14, .int .u8 x306003_14, .int .u8 x306004_14, .int .u8 x306005_14, .int .u8 x306006_14, .int .u8 x306007_14, .int .u8 x306008_14, .int .u8 x306009_14, .int .u8 x306010_14, .int .u8 x306011_14, .string x306012_14]) ?_ 2 _ rfl; (with_reducible repeat (first | refine blk_drewN ?_ _ | refine blk_drew ?_ | refine blk_alloc ?_ _)); refine blk_put (cs := #[.int .u64 t307, .int .u64 x306001_14, .int .u8 x306002_14, .int .u8 x306003_14, .int .u8 x306004_14, .int .u8 x306005_14, .int .u8 x306006_14, .int .u8 x306007_14, .int .u8 x306008_14, .int .u8 x306009_14, .int .u8 x306010_14, .int .u8 x306011_14, .string x306012_14]) ?_ 1 _ rfl; (with_reducible repeat (first | refine blk_drewN ?_ _ | refine blk_drew ?_ | refine blk_alloc ?_ _)); refine blk_put (cs := #[.int .u64 x306000_14, .int .u64 x306001_14, .int .u8 x306002_14, .int .u8 x306003_14, .int .u8 x306004_14, .int .u8 x306005_14, .int .u8 x306006_14, .int .u8 x306007_14, .int .u8 x306008_14, .int .u8 x306009_14, .int .u8 x306010_14, .int .u8 x306011_14, .string x306012_14]) ?_ 0 _ rfl; (with_reducible repeat (first | refine blk_drewN ?_ _ | refine blk_drew ?_ | refine blk_alloc ?_ _)); exact BK305.out) Try.underlying27 rfl (by kernel_rfl)) rfl ?_
               exact ⟨by first | rfl | (simp [errW_none, errW_some] <;> rfl) | (simp only [← hji10]; first | rfl | (simp [errW_none, errW_some] <;> rfl)) | (simp [*, errW_none, errW_some] <;> rfl), by repeat (first | (with_reducible first | exact HB.out | apply below_alloc | apply pw_below_drewN | apply below_drew1 | refine below_set ?_ GE305.out | refine below_set ?_ GE306.out) | exact HB.out)⟩
              ·replace c105 := Bool.eq_false_iff.mpr c105
               subst c105
               have H1 : (some (0, 0, 0, 0, 0, 0, 0, 0, 0, 0, 0, 0, (⟨#[]⟩ : ByteArray), false)) = some (r1, r2, r3, r4, r5, r6, r7, r8, r9, r10, r11, r12, r13, r14) := by rw [if_neg (show ¬ (false = true) by decide)] at H; exact H
               clear H
               have H := H1
               clear H1
               simp only [Option.some.injEq, Prod.mk.injEq] at H
               obtain ⟨rfl, rfl, rfl, rfl, rfl, rfl, rfl, rfl, rfl, rfl, rfl, rfl, rfl, rfl⟩ := H
               have hnb111 := NB306_305.out
               have hnc111 := NB305_306.out
               have hcz112_0 : wc.cell? ⟨gb306, 0, none⟩ = some (.int .u64 t307) := (blk_cell BK306.out 0).trans rfl
               have hcz112_1 : wc.cell? ⟨gb306, 1, none⟩ = some (.int .u64 t310) := (blk_cell BK306.out 1).trans rfl
               have hcz112_2 : wc.cell? ⟨gb306, 2, none⟩ = some (.int .u8 (bt a0 0)) := (blk_cell BK306.out 2).trans rfl
               have hcz112_3 : wc.cell? ⟨gb306, 3, none⟩ = some (.int .u8 x307003_14) := (blk_cell BK306.out 3).trans rfl
               have hcz112_4 : wc.cell? ⟨gb306, 4, none⟩ = some (.int .u8 x307004_14) := (blk_cell BK306.out 4).trans rfl
               have hcz112_5 : wc.cell? ⟨gb306, 5, none⟩ = some (.int .u8 x307005_14) := (blk_cell BK306.out 5).trans rfl
               have hcz112_6 : wc.cell? ⟨gb306, 6, none⟩ = some (.int .u8 x307006_14) := (blk_cell BK306.out 6).trans rfl
               have hcz112_7 : wc.cell? ⟨gb306, 7, none⟩ = some (.int .u8 x307007_14) := (blk_cell BK306.out 7).trans rfl
               have hcz112_8 : wc.cell? ⟨gb306, 8, none⟩ = some (.int .u8 x307008_14) := (blk_cell BK306.out 8).trans rfl
               have hcz112_9 : wc.cell? ⟨gb306, 9, none⟩ = some (.int .u8 x307009_14) := (blk_cell BK306.out 9).trans rfl
               have hcz112_10 : wc.cell? ⟨gb306, 10, none⟩ = some (.int .u8 x307010_14) := (blk_cell BK306.out 10).trans rfl
               have hcz112_11 : wc.cell? ⟨gb306, 11, none⟩ = some (.int .u8 x307011_14) := (blk_cell BK306.out 11).trans rfl
               have hcz112_12 : wc.cell? ⟨gb306, 12, none⟩ = some (.string (⟨#[]⟩ : ByteArray)) := (blk_cell BK306.out 12).trans rfl
               have hfz112_0 := blk_frozen BK306.out 0
               have hfz112_1 := blk_frozen BK306.out 1
               have hfz112_2 := blk_frozen BK306.out 2
               have hfz112_3 := blk_frozen BK306.out 3
               have hfz112_4 := blk_frozen BK306.out 4
               have hfz112_5 := blk_frozen BK306.out 5
               have hfz112_6 := blk_frozen BK306.out 6
               have hfz112_7 := blk_frozen BK306.out 7
               have hfz112_8 := blk_frozen BK306.out 8
               have hfz112_9 := blk_frozen BK306.out 9
               have hfz112_10 := blk_frozen BK306.out 10
               have hfz112_11 := blk_frozen BK306.out 11
               have hfz112_12 := blk_frozen BK306.out 12
               go_wp2_with (first | (go_at_call 15; (with_reducible refine (wapentakeref04_Right.calls kj70 t307 t310 (bt a0 0) x307003_14 x307004_14 x307005_14 x307006_14 x307007_14 x307008_14 x307009_14 x307010_14 x307011_14 (⟨#[]⟩ : ByteArray) false _ A104.out).mono ?_); rintro e w113 ⟨rfl, hb⟩; have n0_ := Aside0.mk (blk_below (g := gb305) (o := .cells #[.int .u64 x306000_14, .int .u64 x306001_14, .int .u8 x306002_14, .int .u8 x306003_14, .int .u8 x306004_14, .int .u8 x306005_14, .int .u8 x306006_14, .int .u8 x306007_14, .int .u8 x306008_14, .int .u8 x306009_14, .int .u8 x306010_14, .int .u8 x306011_14, .string x306012_14] 27 (0, 0)) (by (with_reducible repeat (first | refine blk_drewN ?_ _ | refine blk_drew ?_ | refine blk_alloc ?_ _)); exact BK305.out) hb); have n1_ := Aside0.mk (blk_below (g := gb306) (o := .cells #[.int .u64 t307, .int .u64 t310, .int .u8 (bt a0 0), .int .u8 x307003_14, .int .u8 x307004_14, .int .u8 x307005_14, .int .u8 x307006_14, .int .u8 x307007_14, .int .u8 x307008_14, .int .u8 x307009_14, .int .u8 x307010_14, .int .u8 x307011_14, .string (⟨#[]⟩ : ByteArray)] 27 (0, 0)) (by (with_reducible repeat (first | refine blk_drewN ?_ _ | refine blk_drew ?_ | refine blk_alloc ?_ _)); exact BK306.out) hb); have n2_ := Aside0.mk (below_step (by repeat (first | (with_reducible first | exact HB.out | apply below_alloc | apply pw_below_drewN | apply below_drew1 | refine below_set ?_ GE305.out | refine below_set ?_ GE306.out) | exact HB.out)) hb); clear BK305; clear BK306; clear HB; have BK305 := n0_; have BK306 := n1_; have HB := n2_; clear n0_ n1_ n2_; (try clear hb); (try clear hb2); (try clear hk); (try clear hi); have hcz114_0 : w113.cell? ⟨gb305, 0, none⟩ = some (.int .u64 x306000_14) := (blk_cell BK305.out 0).trans rfl; have hcz114_1 : w113.cell? ⟨gb305, 1, none⟩ = some (.int .u64 x306001_14) := (blk_cell BK305.out 1).trans rfl; have hcz114_2 : w113.cell? ⟨gb305, 2, none⟩ = some (.int .u8 x306002_14) := (blk_cell BK305.out 2).trans rfl; have hcz114_3 : w113.cell? ⟨gb305, 3, none⟩ = some (.int .u8 x306003_14) := (blk_cell BK305.out 3).trans rfl; have hcz114_4 : w113.cell? ⟨gb305, 4, none⟩ = some (.int .u8 x306004_14) := (blk_cell BK305.out 4).trans rfl; have hcz114_5 : w113.cell? ⟨gb305, 5, none⟩ = some (.int .u8 x306005_14) := (blk_cell BK305.out 5).trans rfl; have hcz114_6 : w113.cell? ⟨gb305, 6, none⟩ = some (.int .u8 x306006_14) := (blk_cell BK305.out 6).trans rfl; have hcz114_7 : w113.cell? ⟨gb305, 7, none⟩ = some (.int .u8 x306007_14) := (blk_cell BK305.out 7).trans rfl; have hcz114_8 : w113.cell? ⟨gb305, 8, none⟩ = some (.int .u8 x306008_14) := (blk_cell BK305.out 8).trans rfl; have hcz114_9 : w113.cell? ⟨gb305, 9, none⟩ = some (.int .u8 x306009_14) := (blk_cell BK305.out 9).trans rfl; have hcz114_10 : w113.cell? ⟨gb305, 10, none⟩ = some (.int .u8 x306010_14) := (blk_cell BK305.out 10).trans rfl; have hcz114_11 : w113.cell? ⟨gb305, 11, none⟩ = some (.int .u8 x306011_14) := (blk_cell BK305.out 11).trans rfl; have hcz114_12 : w113.cell? ⟨gb305, 12, none⟩ = some (.string x306012_14) := (blk_cell BK305.out 12).trans rfl; have hfz114_0 := blk_frozen BK305.out 0; have hfz114_1 := blk_frozen BK305.out 1; have hfz114_2 := blk_frozen BK305.out 2; have hfz114_3 := blk_frozen BK305.out 3; have hfz114_4 := blk_frozen BK305.out 4; have hfz114_5 := blk_frozen BK305.out 5; have hfz114_6 := blk_frozen BK305.out 6; have hfz114_7 := blk_frozen BK305.out 7; have hfz114_8 := blk_frozen BK305.out 8; have hfz114_9 := blk_frozen BK305.out 9; have hfz114_10 := blk_frozen BK305.out 10; have hfz114_11 := blk_frozen BK305.out 11; have hfz114_12 := blk_frozen BK305.out 12))
               refine bodyPost_ret (results_ct rfl _ _ gb305 27 #[.int .u64 0, .int .u64 0, .int .u8 0, .int .u8 0, .int .u8 0, .int .u8 0, .int .u8 0, .int .u8 0, .int .u8 0, .int .u8 0, .int .u8 0, .int .u8 0, .string (⟨#[]⟩ : ByteArray)] (0, 0) _ rfl (by (with_reducible repeat (first | refine blk_drewN ?_ _ | refine blk_drew ?_ | refine blk_alloc ?_ _)); refine blk_put (cs := #[.int .u64 0, .int .u64 0, .int .u8 0, .int .u8 0, .int .u8 0, .int .u8 0, .int .u8 0, .int .u8 0, .int .u8 0, .int .u8 0, .int .u8 0, .int .u8 0, .string x306012_14]) ?_ 12 _ rfl; (with_reducible repeat (first | refine blk_drewN ?_ _ | refine blk_drew ?_ | refine blk_alloc ?_ _)); refine blk_put (cs := #[.int .u64 0, .int .u64 0, .int .u8 0, .int .u8 0, .int .u8 0, .int .u8 0, .int .u8 0, .int .u8 0, .int .u8 0, .int .u8 0, .int .u8 0, .int .u8 x306011_14, .string x306012_14]) ?_ 11 _ rfl; (with_reducible repeat (first | refine blk_drewN ?_ _ | refine blk_drew ?_ | refine blk_alloc ?_ _)); refine blk_put (cs := #[.int .u64 0, .int .u64 0, .int .u8 0, .int .u8 0, .int .u8 0, .int .u8 0, .int .u8 0, .int .u8 0, .int .u8 0, .int .u8 0, .int .u8 x306010_14, .int .u8 x306011_14, .string x306012_14]) ?_ 10 _ rfl; (with_reducible repeat (first | refine blk_drewN ?_ _ | refine blk_drew ?_ | refine blk_alloc ?_ _)); refine blk_put (cs := #[.int .u64 0, .int .u64 0, .int .u8 0, .int .u8 0, .int .u8 0, .int .u8 0, .int .u8 0, .int .u8 0, .int .u8 0, .int .u8 x306009_14, .int .u8 x306010_14, .int .u8 x306011_14, .string x306012_14]) ?_ 9 _ rfl; (with_reducible repeat (first | refine blk_drewN ?_ _ | refine blk_drew ?_ | refine blk_alloc ?_ _)); refine blk_put (cs := #[.int .u64 0, .int .u64 0, .int .u8 0, .int .u8 0, .int .u8 0, .int .u8 0, .int .u8 0, .int .u8 0, .int .u8 x306008_14, .int .u8 x306009_14, .int .u8 x306010_14, .int .u8 x306011_14, .string x306012_14]) ?_ 8 _ rfl; (with_reducible repeat (first | refine blk_drewN ?_ _ | refine blk_drew ?_ | refine blk_alloc ?_ _)); refine blk_put (cs := #[.int .u64 0, .int .u64 0, .int .u8 0, .int .u8 0, .int .u8 0, .int .u8 0, .int .u8 0, .int .u8 x306007_14, .int .u8 x306008_14, .int .u8 x306009_14, .int .u8 x306010_14, .int .u8 x306011_14, .string x306012_14]) ?_ 7 _ rfl; (with_reducible repeat (first | refine blk_drewN ?_ _ | refine blk_drew ?_ | refine blk_alloc ?_ _)); refine blk_put (cs := #[.int .u64 0, .int .u64 0, .int .u8 0, .int .u8 0, .int .u8 0, .int .u8 0, .int .u8 x306006_14, .int .u8 x306007_14, .int .u8 x306008_14, .int .u8 x306009_14, .int .u8 x306010_14, .int .u8 x306011_14, .string x306012_14]) ?_ 6 _ rfl; (with_reducible repeat (first | refine blk_drewN ?_ _ | refine blk_drew ?_ | refine blk_alloc ?_ _)); refine blk_put (cs := #[.int .u64 0, .int .u64 0, .int .u8 0, .int .u8 0, .int .u8 0, .int .u8 x306005_14, .int .u8 x306006_14, .int .u8 x306007_14, .int .u8 x306008_14, .int .u8 x306009_14, .int .u8 x306010_14, .int .u8 x306011_14, .string x306012_14]) ?_ 5 _ rfl; (with_reducible repeat (first | refine blk_drewN ?_ _ | refine blk_drew ?_ | refine blk_alloc ?_ _)); refine blk_put (cs := #[.int .u64 0, .int .u64 0, .int .u8 0, .int .u8 0, .int .u8 x306004_14, .int .u8 x306005_14, .int .u8 x306006_14, .int .u8 x306007_14, .int .u8 x306008_14, .int .u8 x306009_14, .int .u8 x306010_14, .int .u8 x306011_14, .string x306012_14]) ?_ 4 _ rfl; (with_reducible repeat (first | refine blk_drewN ?_ _ | refine blk_drew ?_ | refine blk_alloc ?_ _)); refine blk_put (cs := #[.int .u64 0, .int .u64 0, .int .u8 0, .int .u8 x306003_14, .int .u8 x306004_14, .int .u8 x306005_14, .int .u8 x306006_14, .int .u8 x306007_14, .int .u8 x306008_14, .int .u8 x306009_14, .int .u8 x306010_14, .int .u8 x306011_14, .string x306012_14]) ?_ 3 _ rfl; (with_reducible repeat (first | refine blk_drewN ?_ _ | refine blk_drew ?_ | refine blk_alloc ?_ _)); refine blk_put (cs := #[.int .u64 0, .int .u64 0, .int .u8 x306002_14, .int .u8 x306003_14, .int .u8 x306004_14, .int .u8 x306005_14, .int .u8 x306006_14, .int .u8 x306007_14, .int .u8 x306008_14, .int .u8 x306009_14, .int .u8 x306010_14, .int .u8 x306011_14, .string x306012_14]) ?_ 2 _ rfl; (with_reducible repeat (first | refine blk_drewN ?_ _ | refine blk_drew ?_ | refine blk_alloc ?_ _)); refine blk_put (cs := #[.int .u64 0, .int .u64 x306001_14, .int .u8 x306002_14, .int .u8 x306003_14, .int .u8 x306004_14, .int .u8 x306005_14, .int .u8 x306006_14, .int .u8 x306007_14, .int .u8 x306008_14, .int .u8 x306009_14, .int .u8 x306010_14, .int .u8 x306011_14, .string x306012_14]) ?_ 1 _ rfl; (with_reducible repeat (first | refine blk_drewN ?_ _ | refine blk_drew ?_ | refine blk_alloc ?_ _)); refine blk_put (cs := #[.int .u64 x306000_14, .int .u64 x306001_14, .int .u8 x306002_14, .int .u8 x306003_14, .int .u8 x306004_14, .int .u8 x306005_14, .int .u8 x306006_14, .int .u8 x306007_14, .int .u8 x306008_14, .int .u8 x306009_14, .int .u8 x306010_14, .int .u8 x306011_14, .string x306012_14]) ?_ 0 _ rfl; (with_reducible repeat (first | refine blk_drewN ?_ _ | refine blk_drew ?_ | refine blk_alloc ?_ _)); exact BK305.out) Try.underlying27 rfl (by kernel_rfl)) rfl ?_
               exact ⟨by first | rfl | (simp [errW_none, errW_some] <;> rfl) | (simp only [← hji10]; first | rfl | (simp [errW_none, errW_some] <;> rfl)) | (simp [*, errW_none, errW_some] <;> rfl), by repeat (first | (with_reducible first | exact HB.out | apply below_alloc | apply pw_below_drewN | apply below_drew1 | refine below_set ?_ GE305.out | refine below_set ?_ GE306.out) | exact HB.out)⟩
             ·rw [if_neg c103] at H
              have c103b0 : (x10_14 == (a0.size : Int)) = false := beq_eq_false_iff_ne.mpr c103
              have c103b1 : (x10_14 != (a0.size : Int)) = true := bne_iff_ne.mpr c103
              simp only [Option.some.injEq, Prod.mk.injEq] at H
              obtain ⟨rfl, rfl, rfl, rfl, rfl, rfl, rfl, rfl, rfl, rfl, rfl, rfl, rfl, rfl⟩ := H
              have hnb115 := NB305_306.out
              have hnc115 := NB306_305.out
              have hcz116_0 : wc.cell? ⟨gb305, 0, none⟩ = some (.int .u64 x306000_14) := (blk_cell BK305.out 0).trans rfl
              have hcz116_1 : wc.cell? ⟨gb305, 1, none⟩ = some (.int .u64 x306001_14) := (blk_cell BK305.out 1).trans rfl
              have hcz116_2 : wc.cell? ⟨gb305, 2, none⟩ = some (.int .u8 x306002_14) := (blk_cell BK305.out 2).trans rfl
              have hcz116_3 : wc.cell? ⟨gb305, 3, none⟩ = some (.int .u8 x306003_14) := (blk_cell BK305.out 3).trans rfl
              have hcz116_4 : wc.cell? ⟨gb305, 4, none⟩ = some (.int .u8 x306004_14) := (blk_cell BK305.out 4).trans rfl
              have hcz116_5 : wc.cell? ⟨gb305, 5, none⟩ = some (.int .u8 x306005_14) := (blk_cell BK305.out 5).trans rfl
              have hcz116_6 : wc.cell? ⟨gb305, 6, none⟩ = some (.int .u8 x306006_14) := (blk_cell BK305.out 6).trans rfl
              have hcz116_7 : wc.cell? ⟨gb305, 7, none⟩ = some (.int .u8 x306007_14) := (blk_cell BK305.out 7).trans rfl
              have hcz116_8 : wc.cell? ⟨gb305, 8, none⟩ = some (.int .u8 x306008_14) := (blk_cell BK305.out 8).trans rfl
              have hcz116_9 : wc.cell? ⟨gb305, 9, none⟩ = some (.int .u8 x306009_14) := (blk_cell BK305.out 9).trans rfl
              have hcz116_10 : wc.cell? ⟨gb305, 10, none⟩ = some (.int .u8 x306010_14) := (blk_cell BK305.out 10).trans rfl
              have hcz116_11 : wc.cell? ⟨gb305, 11, none⟩ = some (.int .u8 x306011_14) := (blk_cell BK305.out 11).trans rfl
              have hcz116_12 : wc.cell? ⟨gb305, 12, none⟩ = some (.string x306012_14) := (blk_cell BK305.out 12).trans rfl
              have hfz116_0 := blk_frozen BK305.out 0
              have hfz116_1 := blk_frozen BK305.out 1
              have hfz116_2 := blk_frozen BK305.out 2
              have hfz116_3 := blk_frozen BK305.out 3
              have hfz116_4 := blk_frozen BK305.out 4
              have hfz116_5 := blk_frozen BK305.out 5
              have hfz116_6 := blk_frozen BK305.out 6
              have hfz116_7 := blk_frozen BK305.out 7
              have hfz116_8 := blk_frozen BK305.out 8
              have hfz116_9 := blk_frozen BK305.out 9
              have hfz116_10 := blk_frozen BK305.out 10
              have hfz116_11 := blk_frozen BK305.out 11
              have hfz116_12 := blk_frozen BK305.out 12
              go_wp2
              refine bodyPost_ret (results_ct rfl _ _ gb305 27 #[.int .u64 0, .int .u64 0, .int .u8 0, .int .u8 0, .int .u8 0, .int .u8 0, .int .u8 0, .int .u8 0, .int .u8 0, .int .u8 0, .int .u8 0, .int .u8 0, .string (⟨#[]⟩ : ByteArray)] (0, 0) _ rfl (by (with_reducible repeat (first | refine blk_drewN ?_ _ | refine blk_drew ?_ | refine blk_alloc ?_ _)); refine blk_put (cs := #[.int .u64 0, .int .u64 0, .int .u8 0, .int .u8 0, .int .u8 0, .int .u8 0, .int .u8 0, .int .u8 0, .int .u8 0, .int .u8 0, .int .u8 0, .int .u8 0, .string x306012_14]) ?_ 12 _ rfl; (with_reducible repeat (first | refine blk_drewN ?_ _ | refine blk_drew ?_ | refine blk_alloc ?_ _)); refine blk_put (cs := #[.int .u64 0, .int .u64 0, .int .u8 0, .int .u8 0, .int .u8 0, .int .u8 0, .int .u8 0, .int .u8 0, .int .u8 0, .int .u8 0, .int .u8 0, .int .u8 x306011_14, .string x306012_14]) ?_ 11 _ rfl; (with_reducible repeat (first | refine blk_drewN ?_ _ | refine blk_drew ?_ | refine blk_alloc ?_ _)); refine blk_put (cs := #[.int .u64 0, .int .u64 0, .int .u8 0, .int .u8 0, .int .u8 0, .int .u8 0, .int .u8 0, .int .u8 0, .int .u8 0, .int .u8 0, .int .u8 x306010_14, .int .u8 x306011_14, .string x306012_14]) ?_ 10 _ rfl; (with_reducible repeat (first | refine blk_drewN ?_ _ | refine blk_drew ?_ | refine blk_alloc ?_ _)); refine blk_put (cs := #[.int .u64 0, .int .u64 0, .int .u8 0, .int .u8 0, .int .u8 0, .int .u8 0, .int .u8 0, .int .u8 0, .int .u8 0, .int .u8 x306009_14, .int .u8 x306010_14, .int .u8 x306011_14, .string x306012_14]) ?_ 9 _ rfl; (with_reducible repeat (first | refine blk_drewN ?_ _ | refine blk_drew ?_ | refine blk_alloc ?_ _)); refine blk_put (cs := #[.int .u64 0, .int .u64 0, .int .u8 0, .int .u8 0, .int .u8 0, .int .u8 0, .int .u8 0, .int .u8 0, .int .u8 x306008_14, .int .u8 x306009_14, .int .u8 x306010_14, .int .u8 x306011_14, .string x306012_14]) ?_ 8 _ rfl; (with_reducible repeat (first | refine blk_drewN ?_ _ | refine blk_drew ?_ | refine blk_alloc ?_ _)); refine blk_put (cs := #[.int .u64 0, .int .u64 0, .int .u8 0, .int .u8 0, .int .u8 0, .int .u8 0, .int .u8 0, .int .u8 x306007_14, .int .u8 x306008_14, .int .u8 x306009_14, .int .u8 x306010_14, .int .u8 x306011_14, .string x306012_14]) ?_ 7 _ rfl; (with_reducible repeat (first | refine blk_drewN ?_ _ | refine blk_drew ?_ | refine blk_alloc ?_ _)); refine blk_put (cs := #[.int .u64 0, .int .u64 0, .int .u8 0, .int .u8 0, .int .u8 0, .int .u8 0, .int .u8 x306006_14, .int .u8 x306007_14, .int .u8 x306008_14, .int .u8 x306009_14, .int .u8 x306010_14, .int .u8 x306011_14, .string x306012_14]) ?_ 6 _ rfl; (with_reducible repeat (first | refine blk_drewN ?_ _ | refine blk_drew ?_ | refine blk_alloc ?_ _)); refine blk_put (cs := #[.int .u64 0, .int .u64 0, .int .u8 0, .int .u8 0, .int .u8 0, .int .u8 x306005_14, .int .u8 x306006_14, .int .u8 x306007_14, .int .u8 x306008_14, .int .u8 x306009_14, .int .u8 x306010_14, .int .u8 x306011_14, .string x306012_14]) ?_ 5 _ rfl; (with_reducible repeat (first | refine blk_drewN ?_ _ | refine blk_drew ?_ | refine blk_alloc ?_ _)); refine blk_put (cs := #[.int .u64 0, .int .u64 0, .int .u8 0, .int .u8 0, .int .u8 x306004_14, .int .u8 x306005_14, .int .u8 x306006_14, .int .u8 x306007_14, .int .u8 x306008_14, .int .u8 x306009_14, .int .u8 x306010_14, .int .u8 x306011_14, .string x306012_14]) ?_ 4 _ rfl; (with_reducible repeat (first | refine blk_drewN ?_ _ | refine blk_drew ?_ | refine blk_alloc ?_ _)); refine blk_put (cs := #[.int .u64 0, .int .u64 0, .int .u8 0, .int .u8 x306003_14, .int .u8 x306004_14, .int .u8 x306005_14, .int .u8 x306006_14, .int .u8 x306007_14, .int .u8 x306008_14, .int .u8 x306009_14, .int .u8 x306010_14, .int .u8 x306011_14, .string x306012_14]) ?_ 3 _ rfl; (with_reducible repeat (first | refine blk_drewN ?_ _ | refine blk_drew ?_ | refine blk_alloc ?_ _)); refine blk_put (cs := #[.int .u64 0, .int .u64 0, .int .u8 x306002_14, .int .u8 x306003_14, .int .u8 x306004_14, .int .u8 x306005_14, .int .u8 x306006_14, .int .u8 x306007_14, .int .u8 x306008_14, .int .u8 x306009_14, .int .u8 x306010_14, .int .u8 x306011_14, .string x306012_14]) ?_ 2 _ rfl; (with_reducible repeat (first | refine blk_drewN ?_ _ | refine blk_drew ?_ | refine blk_alloc ?_ _)); refine blk_put (cs := #[.int .u64 0, .int .u64 x306001_14, .int .u8 x306002_14, .int .u8 x306003_14, .int .u8 x306004_14, .int .u8 x306005_14, .int .u8 x306006_14, .int .u8 x306007_14, .int .u8 x306008_14, .int .u8 x306009_14, .int .u8 x306010_14, .int .u8 x306011_14, .string x306012_14]) ?_ 1 _ rfl; (with_reducible repeat (first | refine blk_drewN ?_ _ | refine blk_drew ?_ | refine blk_alloc ?_ _)); refine blk_put (cs := #[.int .u64 x306000_14, .int .u64 x306001_14, .int .u8 x306002_14, .int .u8 x306003_14, .int .u8 x306004_14, .int .u8 x306005_14, .int .u8 x306006_14, .int .u8 x306007_14, .int .u8 x306008_14, .int .u8 x306009_14, .int .u8 x306010_14, .int .u8 x306011_14, .string x306012_14]) ?_ 0 _ rfl; (with_reducible repeat (first | refine blk_drewN ?_ _ | refine blk_drew ?_ | refine blk_alloc ?_ _)); exact BK305.out) Try.underlying27 rfl (by kernel_rfl)) rfl ?_
              exact ⟨by first | rfl | (simp [errW_none, errW_some] <;> rfl) | (simp only [← hji10]; first | rfl | (simp [errW_none, errW_some] <;> rfl)) | (simp [*, errW_none, errW_some] <;> rfl), by repeat (first | (with_reducible first | exact HB.out | apply below_alloc | apply pw_below_drewN | apply below_drew1 | refine below_set ?_ GE305.out | refine below_set ?_ GE306.out) | exact HB.out)⟩
       ·replace c14 := Bool.eq_false_iff.mpr c14
        subst c14
        have H1 : (some (0, 0, 0, 0, 0, 0, 0, 0, 0, 0, 0, 0, (⟨#[]⟩ : ByteArray), false)) = some (r1, r2, r3, r4, r5, r6, r7, r8, r9, r10, r11, r12, r13, r14) := by rw [if_neg (show ¬ (false = true) by decide)] at H; exact H
        clear H
        have H := H1
        clear H1
        simp only [Option.some.injEq, Prod.mk.injEq] at H
        obtain ⟨rfl, rfl, rfl, rfl, rfl, rfl, rfl, rfl, rfl, rfl, rfl, rfl, rfl, rfl⟩ := H
        go_enter Try.func17, Try.ntmps17
        go_wp2_with (first | ((with_reducible refine gate_dst (N := 2) rfl ?_); refine box_event ?hg (N := 2) ?hd (cs := #[.int .u64 0, .int .u64 0, .int .u8 0, .int .u8 0, .int .u8 0, .int .u8 0, .int .u8 0, .int .u8 0, .int .u8 0, .int .u8 0, .int .u8 0, .int .u8 0, .string (⟨#[]⟩ : ByteArray)]) (t := 27) ?hr ?_; (case hd => rfl); (case hg => rfl); (case hr => first | (go_simp; done) | (go_simp; rfl)); intro gb305 hg w117 hbox hb; have n0_ := Aside0.mk (below_step (by repeat (first | (with_reducible first | exact HB.out | apply below_alloc | apply pw_below_drewN | apply below_drew1) | exact HB.out)) hb); have n1_ := Aside0.mk (hbox); have n2_ := Aside0.mk ((by rw [hg]; exact (below_size (by repeat (first | (with_reducible first | exact HB.out | apply below_alloc | apply pw_below_drewN | apply below_drew1) | exact HB.out))) : w.heap.size ≤ gb305)); have n3_ := Aside0.mk ((by rw [hg]; exact (below_size (by repeat (first | (with_reducible first | exact HB.out | apply below_alloc | apply pw_below_drewN | apply below_drew1) | exact HB.out))) : w.heap.size ≤ gb305)); clear HB; have HB := n0_; have BK305 := n1_; have GW305 := n2_; have GE305 := n3_; clear n0_ n1_ n2_ n3_; clear hb hbox hg; have p6 : 0 ≤ (0 : Int) := (by omega); have q6 : 0 < a0.size := (by have : (0 : Int) < (a0.size : Int) := of_decide_eq_true (by first | (with_reducible assumption) | assumption); omega); have hx6 : ∀ h : 0 < a0.size, ((a0[0]'h).toNat : Int) = bt a0 0 := bt_at a0 0; clear p6; have qi6 : (0 < (a0.size : Int)) = True := eq_true (of_decide_eq_true (by first | (with_reducible assumption) | assumption)); replace q6 := eq_true q6) | ((with_reducible refine gate_dst (N := 4) rfl ?_); refine box_event ?hg (N := 4) ?hd (cs := #[.int .u64 0, .int .u64 0, .int .u8 0, .int .u8 0, .int .u8 0, .int .u8 0, .int .u8 0, .int .u8 0, .int .u8 0, .int .u8 0, .int .u8 0, .int .u8 0, .string (⟨#[]⟩ : ByteArray)]) (t := 27) ?hr ?_; (case hd => rfl); (case hg => rfl); (case hr => first | (go_simp; done) | (go_simp; rfl)); intro gb306 hg w118 hbox hb; have n0_ := Aside0.mk (blk_below (g := gb305) (o := .cells #[.int .u64 0, .int .u64 0, .int .u8 0, .int .u8 0, .int .u8 0, .int .u8 0, .int .u8 0, .int .u8 0, .int .u8 0, .int .u8 0, .int .u8 0, .int .u8 0, .string (⟨#[]⟩ : ByteArray)] 27 (0, 0)) (by (with_reducible repeat (first | refine blk_drewN ?_ _ | refine blk_drew ?_ | refine blk_alloc ?_ _)); exact BK305.out) hb); have n1_ := Aside0.mk (below_step (by repeat (first | (with_reducible first | exact HB.out | apply below_alloc | apply pw_below_drewN | apply below_drew1 | refine below_set ?_ GE305.out) | exact HB.out)) hb); have n2_ := Aside0.mk (hbox); have n3_ := Aside0.mk ((by rw [hg]; exact (below_size (by repeat (first | (with_reducible first | exact HB.out | apply below_alloc | apply pw_below_drewN | apply below_drew1 | refine below_set ?_ GE305.out) | exact HB.out))) : w.heap.size ≤ gb306)); have n4_ := Aside0.mk ((by rw [hg]; exact (below_size (by repeat (first | (with_reducible first | exact HB.out | apply below_alloc | apply pw_below_drewN | apply below_drew1 | refine below_set ?_ GE305.out) | exact HB.out))) : w.heap.size ≤ gb306)); have n5_ := Aside0.mk ((by rw [hg]; exact Nat.ne_of_lt (blk_lt (g := gb305) (o := .cells #[.int .u64 0, .int .u64 0, .int .u8 0, .int .u8 0, .int .u8 0, .int .u8 0, .int .u8 0, .int .u8 0, .int .u8 0, .int .u8 0, .int .u8 0, .int .u8 0, .string (⟨#[]⟩ : ByteArray)] 27 (0, 0)) (by (with_reducible repeat (first | refine blk_drewN ?_ _ | refine blk_drew ?_ | refine blk_alloc ?_ _)); exact BK305.out)) : gb305 ≠ gb306)); have n6_ := Aside0.mk ((by rw [hg]; exact Nat.ne_of_gt (blk_lt (g := gb305) (o := .cells #[.int .u64 0, .int .u64 0, .int .u8 0, .int .u8 0, .int .u8 0, .int .u8 0, .int .u8 0, .int .u8 0, .int .u8 0, .int .u8 0, .int .u8 0, .int .u8 0, .string (⟨#[]⟩ : ByteArray)] 27 (0, 0)) (by (with_reducible repeat (first | refine blk_drewN ?_ _ | refine blk_drew ?_ | refine blk_alloc ?_ _)); exact BK305.out)) : gb306 ≠ gb305)); clear BK305; clear HB; have BK305 := n0_; have HB := n1_; have BK306 := n2_; have GW306 := n3_; have GE306 := n4_; have NB305_306 := n5_; have NB306_305 := n6_; clear n0_ n1_ n2_ n3_ n4_ n5_ n6_; clear hb hbox hg; have hnb119 := NB306_305.out; have hnc119 := NB305_306.out; have hcz120_0 : w118.cell? ⟨gb306, 0, none⟩ = some (.int .u64 0) := (blk_cell BK306.out 0).trans rfl; have hcz120_1 : w118.cell? ⟨gb306, 1, none⟩ = some (.int .u64 0) := (blk_cell BK306.out 1).trans rfl; have hcz120_2 : w118.cell? ⟨gb306, 2, none⟩ = some (.int .u8 0) := (blk_cell BK306.out 2).trans rfl; have hcz120_3 : w118.cell? ⟨gb306, 3, none⟩ = some (.int .u8 0) := (blk_cell BK306.out 3).trans rfl; have hcz120_4 : w118.cell? ⟨gb306, 4, none⟩ = some (.int .u8 0) := (blk_cell BK306.out 4).trans rfl; have hcz120_5 : w118.cell? ⟨gb306, 5, none⟩ = some (.int .u8 0) := (blk_cell BK306.out 5).trans rfl; have hcz120_6 : w118.cell? ⟨gb306, 6, none⟩ = some (.int .u8 0) := (blk_cell BK306.out 6).trans rfl; have hcz120_7 : w118.cell? ⟨gb306, 7, none⟩ = some (.int .u8 0) := (blk_cell BK306.out 7).trans rfl; have hcz120_8 : w118.cell? ⟨gb306, 8, none⟩ = some (.int .u8 0) := (blk_cell BK306.out 8).trans rfl; have hcz120_9 : w118.cell? ⟨gb306, 9, none⟩ = some (.int .u8 0) := (blk_cell BK306.out 9).trans rfl; have hcz120_10 : w118.cell? ⟨gb306, 10, none⟩ = some (.int .u8 0) := (blk_cell BK306.out 10).trans rfl; have hcz120_11 : w118.cell? ⟨gb306, 11, none⟩ = some (.int .u8 0) := (blk_cell BK306.out 11).trans rfl; have hcz120_12 : w118.cell? ⟨gb306, 12, none⟩ = some (.string (⟨#[]⟩ : ByteArray)) := (blk_cell BK306.out 12).trans rfl; have hfz120_0 := blk_frozen BK306.out 0; have hfz120_1 := blk_frozen BK306.out 1; have hfz120_2 := blk_frozen BK306.out 2; have hfz120_3 := blk_frozen BK306.out 3; have hfz120_4 := blk_frozen BK306.out 4; have hfz120_5 := blk_frozen BK306.out 5; have hfz120_6 := blk_frozen BK306.out 6; have hfz120_7 := blk_frozen BK306.out 7; have hfz120_8 := blk_frozen BK306.out 8; have hfz120_9 := blk_frozen BK306.out 9; have hfz120_10 := blk_frozen BK306.out 10; have hfz120_11 := blk_frozen BK306.out 11; have hfz120_12 := blk_frozen BK306.out 12) | ((with_reducible refine gate_callee (f := 29) rfl ?_); refine goesL_ (some 25) rfl rfl Try.func29 (by kernel_rfl) rfl #[.string (a0.extract 1 a0.size)] rfl (by (try simp only [List.map_toArray, List.map_cons, List.map_nil]); first | done | rfl | (simp only [List.length_drop, List.length_take]; rfl)) ?_; (with_reducible refine (wapentakeref01_ReadV.calls k (a0.extract 1 a0.size) t307 t308 true _ A8.out).mono ?_); rintro e w121 ⟨rfl, hb⟩; refine ⟨_, rfl, ?_⟩; have n0_ := Aside0.mk (blk_below (g := gb305) (o := .cells #[.int .u64 0, .int .u64 0, .int .u8 0, .int .u8 0, .int .u8 0, .int .u8 0, .int .u8 0, .int .u8 0, .int .u8 0, .int .u8 0, .int .u8 0, .int .u8 0, .string (⟨#[]⟩ : ByteArray)] 27 (0, 0)) (by (with_reducible repeat (first | refine blk_drewN ?_ _ | refine blk_drew ?_ | refine blk_alloc ?_ _)); refine blk_far ?_ NB305_306.out _; (with_reducible repeat (first | refine blk_drewN ?_ _ | refine blk_drew ?_ | refine blk_alloc ?_ _)); refine blk_far ?_ NB305_306.out _; (with_reducible repeat (first | refine blk_drewN ?_ _ | refine blk_drew ?_ | refine blk_alloc ?_ _)); refine blk_far ?_ NB305_306.out _; (with_reducible repeat (first | refine blk_drewN ?_ _ | refine blk_drew ?_ | refine blk_alloc ?_ _)); refine blk_far ?_ NB305_306.out _; (with_reducible repeat (first | refine blk_drewN ?_ _ | refine blk_drew ?_ | refine blk_alloc ?_ _)); refine blk_far ?_ NB305_306.out _; (with_reducible repeat (first | refine blk_drewN ?_ _ | refine blk_drew ?_ | refine blk_alloc ?_ _)); refine blk_far ?_ NB305_306.out _; (with_reducible repeat (first | refine blk_drewN ?_ _ | refine blk_drew ?_ | refine blk_alloc ?_ _)); refine blk_far ?_ NB305_306.out _; (with_reducible repeat (first | refine blk_drewN ?_ _ | refine blk_drew ?_ | refine blk_alloc ?_ _)); refine blk_far ?_ NB305_306.out _; (with_reducible repeat (first | refine blk_drewN ?_ _ | refine blk_drew ?_ | refine blk_alloc ?_ _)); refine blk_far ?_ NB305_306.out _; (with_reducible repeat (first | refine blk_drewN ?_ _ | refine blk_drew ?_ | refine blk_alloc ?_ _)); refine blk_far ?_ NB305_306.out _; (with_reducible repeat (first | refine blk_drewN ?_ _ | refine blk_drew ?_ | refine blk_alloc ?_ _)); refine blk_far ?_ NB305_306.out _; (with_reducible repeat (first | refine blk_drewN ?_ _ | refine blk_drew ?_ | refine blk_alloc ?_ _)); refine blk_far ?_ NB305_306.out _; (with_reducible repeat (first | refine blk_drewN ?_ _ | refine blk_drew ?_ | refine blk_alloc ?_ _)); refine blk_far ?_ NB305_306.out _; (with_reducible repeat (first | refine blk_drewN ?_ _ | refine blk_drew ?_ | refine blk_alloc ?_ _)); exact BK305.out) hb); have n1_ := Aside0.mk (blk_below (g := gb306) (o := .cells #[.int .u64 0, .int .u64 0, .int .u8 (bt a0 0), .int .u8 0, .int .u8 0, .int .u8 0, .int .u8 0, .int .u8 0, .int .u8 0, .int .u8 0, .int .u8 0, .int .u8 0, .string (⟨#[]⟩ : ByteArray)] 27 (0, 0)) (by (with_reducible repeat (first | refine blk_drewN ?_ _ | refine blk_drew ?_ | refine blk_alloc ?_ _)); refine blk_put (cs := #[.int .u64 0, .int .u64 0, .int .u8 (bt a0 0), .int .u8 0, .int .u8 0, .int .u8 0, .int .u8 0, .int .u8 0, .int .u8 0, .int .u8 0, .int .u8 0, .int .u8 0, .string (⟨#[]⟩ : ByteArray)]) ?_ 12 _ rfl; (with_reducible repeat (first | refine blk_drewN ?_ _ | refine blk_drew ?_ | refine blk_alloc ?_ _)); refine blk_put (cs := #[.int .u64 0, .int .u64 0, .int .u8 (bt a0 0), .int .u8 0, .int .u8 0, .int .u8 0, .int .u8 0, .int .u8 0, .int .u8 0, .int .u8 0, .int .u8 0, .int .u8 0, .string (⟨#[]⟩ : ByteArray)]) ?_ 11 _ rfl; (with_reducible repeat (first | refine blk_drewN ?_ _ | refine blk_drew ?_ | refine blk_alloc ?_ _)); refine blk_put (cs := #[.int .u64 0, .int .u64 0, .int .u8 (bt a0 0), .int .u8 0, .int .u8 0, .int .u8 0, .int .u8 0, .int .u8 0, .int .u8 0, .int .u8 0, .int .u8 0, .int .u8 0, .string (⟨#[]⟩ : ByteArray)]) ?_ 10 _ rfl; (with_reducible repeat (first | refine blk_drewN ?_ _ | refine blk_drew ?_ | refine blk_alloc ?_ _)); refine blk_put (cs := #[.int .u64 0, .int .u64 0, .int .u8 (bt a0 0), .int .u8 0, .int .u8 0, .int .u8 0, .int .u8 0, .int .u8 0, .int .u8 0, .int .u8 0, .int .u8 0, .int .u8 0, .string (⟨#[]⟩ : ByteArray)]) ?_ 9 _ rfl; (with_reducible repeat (first | refine blk_drewN ?_ _ | refine blk_drew ?_ | refine blk_alloc ?_ _)); refine blk_put (cs := #[.int .u64 0, .int .u64 0, .int .u8 (bt a0 0), .int .u8 0, .int .u8 0, .int .u8 0, .int .u8 0, .int .u8 0, .int .u8 0, .int .u8 0, .int .u8 0, .int .u8 0, .string (⟨#[]⟩ : ByteArray)]) ?_ 8 _ rfl; (with_reducible repeat (first | refine blk_drewN ?_ _ | refine blk_drew ?_ | refine blk_alloc ?_ _)); refine blk_put (cs := #[.int .u64 0, .int .u64 0, .int .u8 (bt a0 0), .int .u8 0, .int .u8 0, .int .u8 0, .int .u8 0, .int .u8 0, .int .u8 0, .int .u8 0, .int .u8 0, .int .u8 0, .string (⟨#[]⟩ : ByteArray)]) ?_ 7 _ rfl; (with_reducible repeat (first | refine blk_drewN ?_ _ | refine blk_drew ?_ | refine blk_alloc ?_ _)); refine blk_put (cs := #[.int .u64 0, .int .u64 0, .int .u8 (bt a0 0), .int .u8 0, .int .u8 0, .int .u8 0, .int .u8 0, .int .u8 0, .int .u8 0, .int .u8 0, .int .u8 0, .int .u8 0, .string (⟨#[]⟩ : ByteArray)]) ?_ 6 _ rfl; (with_reducible repeat (first | refine blk_drewN ?_ _ | refine blk_drew ?_ | refine blk_alloc ?_ _)); refine blk_put (cs := #[.int .u64 0, .int .u64 0, .int .u8 (bt a0 0), .int .u8 0, .int .u8 0, .int .u8 0, .int .u8 0, .int .u8 0, .int .u8 0, .int .u8 0, .int .u8 0, .int .u8 0, .string (⟨#[]⟩ : ByteArray)]) ?_ 5 _ rfl; (with_reducible repeat (first | refine blk_drewN ?_ _ | refine blk_drew ?_ | refine blk_alloc ?_ _)); refine blk_put (cs := #[.int .u64 0, .int .u64 0, .int .u8 (bt a0 0), .int .u8 0, .int .u8 0, .int .u8 0, .int .u8 0, .int .u8 0, .int .u8 0, .int .u8 0, .int .u8 0, .int .u8 0, .string (⟨#[]⟩ : ByteArray)]) ?_ 4 _ rfl; (with_reducible repeat (first | refine blk_drewN ?_ _ | refine blk_drew ?_ | refine blk_alloc ?_ _)); refine blk_put (cs := #[.int .u64 0, .int .u64 0, .int .u8 (bt a0 0), .int .u8 0, .int .u8 0, .int .u8 0, .int .u8 0, .int .u8 0, .int .u8 0, .int .u8 0, .int .u8 0, .int .u8 0, .string (⟨#[]⟩ : ByteArray)]) ?_ 3 _ rfl; (with_reducible repeat (first | refine blk_drewN ?_ _ | refine blk_drew ?_ | refine blk_alloc ?_ _)); refine blk_put (cs := #[.int .u64 0, .int .u64 0, .int .u8 0, .int .u8 0, .int .u8 0, .int .u8 0, .int .u8 0, .int .u8 0, .int .u8 0, .int .u8 0, .int .u8 0, .int .u8 0, .string (⟨#[]⟩ : ByteArray)]) ?_ 2 _ rfl; (with_reducible repeat (first | refine blk_drewN ?_ _ | refine blk_drew ?_ | refine blk_alloc ?_ _)); refine blk_put (cs := #[.int .u64 0, .int .u64 0, .int .u8 0, .int .u8 0, .int .u8 0, .int .u8 0, .int .u8 0, .int .u8 0, .int .u8 0, .int .u8 0, .int .u8 0, .int .u8 0, .string (⟨#[]⟩ : ByteArray)]) ?_ 1 _ rfl; (with_reducible repeat (first | refine blk_drewN ?_ _ | refine blk_drew ?_ | refine blk_alloc ?_ _)); refine blk_put (cs := #[.int .u64 0, .int .u64 0, .int .u8 0, .int .u8 0, .int .u8 0, .int .u8 0, .int .u8 0, .int .u8 0, .int .u8 0, .int .u8 0, .int .u8 0, .int .u8 0, .string (⟨#[]⟩ : ByteArray)]) ?_ 0 _ rfl; (with_reducible repeat (first | refine blk_drewN ?_ _ | refine blk_drew ?_ | refine blk_alloc ?_ _)); exact BK306.out) hb); have n2_ := Aside0.mk (below_step (by repeat (first | (with_reducible first | exact HB.out | apply below_alloc | apply pw_below_drewN | apply below_drew1 | refine below_set ?_ GE305.out | refine below_set ?_ GE306.out) | exact HB.out)) hb); clear BK305; clear BK306; clear HB; have BK305 := n0_; have BK306 := n1_; have HB := n2_; clear n0_ n1_ n2_; (try clear hb); (try clear hb2); (try clear hk); (try clear hi)) | ((with_reducible refine gate_callee (f := 29) rfl ?_); refine goesL_ (some 37) rfl rfl Try.func29 (by kernel_rfl) rfl #[.string (a0.extract ((ji10) : Int).toNat a0.size)] rfl (by (try simp only [List.map_toArray, List.map_cons, List.map_nil]); first | done | (simp only [hji10]; rfl) | rfl | (simp only [List.length_drop, List.length_take]; rfl)) ?_; (with_reducible refine (wapentakeref01_ReadV.calls k (a0.extract ((ji10) : Int).toNat a0.size) t310 t311 false _ A13.out).mono ?_); rintro e w122 ⟨rfl, hb⟩; refine ⟨_, rfl, ?_⟩; have n0_ := Aside0.mk (blk_below (g := gb305) (o := .cells #[.int .u64 0, .int .u64 0, .int .u8 0, .int .u8 0, .int .u8 0, .int .u8 0, .int .u8 0, .int .u8 0, .int .u8 0, .int .u8 0, .int .u8 0, .int .u8 0, .string (⟨#[]⟩ : ByteArray)] 27 (0, 0)) (by (with_reducible repeat (first | refine blk_drewN ?_ _ | refine blk_drew ?_ | refine blk_alloc ?_ _)); exact BK305.out) hb); have n1_ := Aside0.mk (blk_below (g := gb306) (o := .cells #[.int .u64 0, .int .u64 0, .int .u8 (bt a0 0), .int .u8 0, .int .u8 0, .int .u8 0, .int .u8 0, .int .u8 0, .int .u8 0, .int .u8 0, .int .u8 0, .int .u8 0, .string (⟨#[]⟩ : ByteArray)] 27 (0, 0)) (by (with_reducible repeat (first | refine blk_drewN ?_ _ | refine blk_drew ?_ | refine blk_alloc ?_ _)); exact BK306.out) hb); have n2_ := Aside0.mk (below_step (by repeat (first | (with_reducible first | exact HB.out | apply below_alloc | apply pw_below_drewN | apply below_drew1 | refine below_set ?_ GE305.out | refine below_set ?_ GE306.out) | exact HB.out)) hb); clear BK305; clear BK306; clear HB; have BK305 := n0_; have BK306 := n1_; have HB := n2_; clear n0_ n1_ n2_; (try clear hb); (try clear hb2); (try clear hk); (try clear hi); have hcz123_0 : w122.cell? ⟨gb305, 0, none⟩ = some (.int .u64 0) := (blk_cell BK305.out 0).trans rfl; have hcz123_1 : w122.cell? ⟨gb305, 1, none⟩ = some (.int .u64 0) := (blk_cell BK305.out 1).trans rfl; have hcz123_2 : w122.cell? ⟨gb305, 2, none⟩ = some (.int .u8 0) := (blk_cell BK305.out 2).trans rfl; have hcz123_3 : w122.cell? ⟨gb305, 3, none⟩ = some (.int .u8 0) := (blk_cell BK305.out 3).trans rfl; have hcz123_4 : w122.cell? ⟨gb305, 4, none⟩ = some (.int .u8 0) := (blk_cell BK305.out 4).trans rfl; have hcz123_5 : w122.cell? ⟨gb305, 5, none⟩ = some (.int .u8 0) := (blk_cell BK305.out 5).trans rfl; have hcz123_6 : w122.cell? ⟨gb305, 6, none⟩ = some (.int .u8 0) := (blk_cell BK305.out 6).trans rfl; have hcz123_7 : w122.cell? ⟨gb305, 7, none⟩ = some (.int .u8 0) := (blk_cell BK305.out 7).trans rfl; have hcz123_8 : w122.cell? ⟨gb305, 8, none⟩ = some (.int .u8 0) := (blk_cell BK305.out 8).trans rfl; have hcz123_9 : w122.cell? ⟨gb305, 9, none⟩ = some (.int .u8 0) := (blk_cell BK305.out 9).trans rfl; have hcz123_10 : w122.cell? ⟨gb305, 10, none⟩ = some (.int .u8 0) := (blk_cell BK305.out 10).trans rfl; have hcz123_11 : w122.cell? ⟨gb305, 11, none⟩ = some (.int .u8 0) := (blk_cell BK305.out 11).trans rfl; have hcz123_12 : w122.cell? ⟨gb305, 12, none⟩ = some (.string (⟨#[]⟩ : ByteArray)) := (blk_cell BK305.out 12).trans rfl; have hfz123_0 := blk_frozen BK305.out 0; have hfz123_1 := blk_frozen BK305.out 1; have hfz123_2 := blk_frozen BK305.out 2; have hfz123_3 := blk_frozen BK305.out 3; have hfz123_4 := blk_frozen BK305.out 4; have hfz123_5 := blk_frozen BK305.out 5; have hfz123_6 := blk_frozen BK305.out 6; have hfz123_7 := blk_frozen BK305.out 7; have hfz123_8 := blk_frozen BK305.out 8; have hfz123_9 := blk_frozen BK305.out 9; have hfz123_10 := blk_frozen BK305.out 10; have hfz123_11 := blk_frozen BK305.out 11; have hfz123_12 := blk_frozen BK305.out 12))
        refine bodyPost_ret (results_ct rfl _ _ gb305 27 #[.int .u64 0, .int .u64 0, .int .u8 0, .int .u8 0, .int .u8 0, .int .u8 0, .int .u8 0, .int .u8 0, .int .u8 0, .int .u8 0, .int .u8 0, .int .u8 0, .string (⟨#[]⟩ : ByteArray)] (0, 0) _ rfl (by (with_reducible repeat (first | refine blk_drewN ?_ _ | refine blk_drew ?_ | refine blk_alloc ?_ _)); refine blk_put (cs := #[.int .u64 0, .int .u64 0, .int .u8 0, .int .u8 0, .int .u8 0, .int .u8 0, .int .u8 0, .int .u8 0, .int .u8 0, .int .u8 0, .int .u8 0, .int .u8 0, .string (⟨#[]⟩ : ByteArray)]) ?_ 12 _ rfl; (with_reducible repeat (first | refine blk_drewN ?_ _ | refine blk_drew ?_ | refine blk_alloc ?_ _)); refine blk_put (cs := #[.int .u64 0, .int .u64 0, .int .u8 0, .int .u8 0, .int .u8 0, .int .u8 0, .int .u8 0, .int .u8 0, .int .u8 0, .int .u8 0, .int .u8 0, .int .u8 0, .string (⟨#[]⟩ : ByteArray)]) ?_ 11 _ rfl; (with_reducible repeat (first | refine blk_drewN ?_ _ | refine blk_drew ?_ | refine blk_alloc ?_ _)); refine blk_put (cs := #[.int .u64 0, .int .u64 0, .int .u8 0, .int .u8 0, .int .u8 0, .int .u8 0, .int .u8 0, .int .u8 0, .int .u8 0, .int .u8 0, .int .u8 0, .int .u8 0, .string (⟨#[]⟩ : ByteArray)]) ?_ 10 _ rfl; (with_reducible repeat (first | refine blk_drewN ?_ _ | refine blk_drew ?_ | refine blk_alloc ?_ _)); refine blk_put (cs := #[.int .u64 0, .int .u64 0, .int .u8 0, .int .u8 0, .int .u8 0, .int .u8 0, .int .u8 0, .int .u8 0, .int .u8 0, .int .u8 0, .int .u8 0, .int .u8 0, .string (⟨#[]⟩ : ByteArray)]) ?_ 9 _ rfl; (with_reducible repeat (first | refine blk_drewN ?_ _ | refine blk_drew ?_ | refine blk_alloc ?_ _)); refine blk_put (cs := #[.int .u64 0, .int .u64 0, .int .u8 0, .int .u8 0, .int .u8 0, .int .u8 0, .int .u8 0, .int .u8 0, .int .u8 0, .int .u8 0, .int .u8 0, .int .u8 0, .string (⟨#[]⟩ : ByteArray)]) ?_ 8 _ rfl; (with_reducible repeat (first | refine blk_drewN ?_ _ | refine blk_drew ?_ | refine blk_alloc ?_ _)); refine blk_put (cs := #[.int .u64 0, .int .u64 0, .int .u8 0, .int .u8 0, .int .u8 0, .int .u8 0, .int .u8 0, .int .u8 0, .int .u8 0, .int .u8 0, .int .u8 0, .int .u8 0, .string (⟨#[]⟩ : ByteArray)]) ?_ 7 _ rfl; (with_reducible repeat (first | refine blk_drewN ?_ _ | refine blk_drew ?_ | refine blk_alloc ?_ _)); refine blk_put (cs := #[.int .u64 0, .int .u64 0, .int .u8 0, .int .u8 0, .int .u8 0, .int .u8 0, .int .u8 0, .int .u8 0, .int .u8 0, .int .u8 0, .int .u8 0, .int .u8 0, .string (⟨#[]⟩ : ByteArray)]) ?_ 6 _ rfl; (with_reducible repeat (first | refine blk_drewN ?_ _ | refine blk_drew ?_ | refine blk_alloc ?_ _)); refine blk_put (cs := #[.int .u64 0, .int .u64 0, .int .u8 0, .int .u8 0, .int .u8 0, .int .u8 0, .int .u8 0, .int .u8 0, .int .u8 0, .int .u8 0, .int .u8 0, .int .u8 0, .string (⟨#[]⟩ : ByteArray)]) ?_ 5 _ rfl; (with_reducible repeat (first | refine blk_drewN ?_ _ | refine blk_drew ?_ | refine blk_alloc ?_ _)); refine blk_put (cs := #[.int .u64 0, .int .u64 0, .int .u8 0, .int .u8 0, .int .u8 0, .int .u8 0, .int .u8 0, .int .u8 0, .int .u8 0, .int .u8 0, .int .u8 0, .int .u8 0, .string (⟨#[]⟩ : ByteArray)]) ?_ 4 _ rfl; (with_reducible repeat (first | refine blk_drewN ?_ _ | refine blk_drew ?_ | refine blk_alloc ?_ _)); refine blk_put (cs := #[.int .u64 0, .int .u64 0, .int .u8 0, .int .u8 0, .int .u8 0, .int .u8 0, .int .u8 0, .int .u8 0, .int .u8 0, .int .u8 0, .int .u8 0, .int .u8 0, .string (⟨#[]⟩ : ByteArray)]) ?_ 3 _ rfl; (with_reducible repeat (first | refine blk_drewN ?_ _ | refine blk_drew ?_ | refine blk_alloc ?_ _)); refine blk_put (cs := #[.int .u64 0, .int .u64 0, .int .u8 0, .int .u8 0, .int .u8 0, .int .u8 0, .int .u8 0, .int .u8 0, .int .u8 0, .int .u8 0, .int .u8 0, .int .u8 0, .string (⟨#[]⟩ : ByteArray)]) ?_ 2 _ rfl; (with_reducible repeat (first | refine blk_drewN ?_ _ | refine blk_drew ?_ | refine blk_alloc ?_ _)); refine blk_put (cs := #[.int .u64 0, .int .u64 0, .int .u8 0, .int .u8 0, .int .u8 0, .int .u8 0, .int .u8 0, .int .u8 0, .int .u8 0, .int .u8 0, .int .u8 0, .int .u8 0, .string (⟨#[]⟩ : ByteArray)]) ?_ 1 _ rfl; (with_reducible repeat (first | refine blk_drewN ?_ _ | refine blk_drew ?_ | refine blk_alloc ?_ _)); refine blk_put (cs := #[.int .u64 0, .int .u64 0, .int .u8 0, .int .u8 0, .int .u8 0, .int .u8 0, .int .u8 0, .int .u8 0, .int .u8 0, .int .u8 0, .int .u8 0, .int .u8 0, .string (⟨#[]⟩ : ByteArray)]) ?_ 0 _ rfl; (with_reducible repeat (first | refine blk_drewN ?_ _ | refine blk_drew ?_ | refine blk_alloc ?_ _)); exact BK305.out) Try.underlying27 rfl (by kernel_rfl)) rfl ?_
        exact ⟨by first | rfl | (simp [errW_none, errW_some] <;> rfl) | (simp only [← hji10]; first | rfl | (simp [errW_none, errW_some] <;> rfl)) | (simp [*, errW_none, errW_some] <;> rfl), by repeat (first | (with_reducible first | exact HB.out | apply below_alloc | apply pw_below_drewN | apply below_drew1 | refine below_set ?_ GE305.out | refine below_set ?_ GE306.out) | exact HB.out)⟩
      ·rw [if_neg c12] at H
       exact absurd H (by simp)
     ·rw [if_neg c11] at H
      exact absurd H (by simp)
    ·replace c9 := Bool.eq_false_iff.mpr c9
     subst c9
     have H1 : (some (0, 0, 0, 0, 0, 0, 0, 0, 0, 0, 0, 0, (⟨#[]⟩ : ByteArray), false)) = some (r1, r2, r3, r4, r5, r6, r7, r8, r9, r10, r11, r12, r13, r14) := by rw [if_neg (show ¬ (false = true) by decide)] at H; exact H
     clear H
     have H := H1
     clear H1
     simp only [Option.some.injEq, Prod.mk.injEq] at H
     obtain ⟨rfl, rfl, rfl, rfl, rfl, rfl, rfl, rfl, rfl, rfl, rfl, rfl, rfl, rfl⟩ := H
     go_enter Try.func17, Try.ntmps17
     go_wp2_with (first | ((with_reducible refine gate_dst (N := 2) rfl ?_); refine box_event ?hg (N := 2) ?hd (cs := #[.int .u64 0, .int .u64 0, .int .u8 0, .int .u8 0, .int .u8 0, .int .u8 0, .int .u8 0, .int .u8 0, .int .u8 0, .int .u8 0, .int .u8 0, .int .u8 0, .string (⟨#[]⟩ : ByteArray)]) (t := 27) ?hr ?_; (case hd => rfl); (case hg => rfl); (case hr => first | (go_simp; done) | (go_simp; rfl)); intro gb305 hg w124 hbox hb; have n0_ := Aside0.mk (below_step (by repeat (first | (with_reducible first | exact HB.out | apply below_alloc | apply pw_below_drewN | apply below_drew1) | exact HB.out)) hb); have n1_ := Aside0.mk (hbox); have n2_ := Aside0.mk ((by rw [hg]; exact (below_size (by repeat (first | (with_reducible first | exact HB.out | apply below_alloc | apply pw_below_drewN | apply below_drew1) | exact HB.out))) : w.heap.size ≤ gb305)); have n3_ := Aside0.mk ((by rw [hg]; exact (below_size (by repeat (first | (with_reducible first | exact HB.out | apply below_alloc | apply pw_below_drewN | apply below_drew1) | exact HB.out))) : w.heap.size ≤ gb305)); clear HB; have HB := n0_; have BK305 := n1_; have GW305 := n2_; have GE305 := n3_; clear n0_ n1_ n2_ n3_; clear hb hbox hg; have p6 : 0 ≤ (0 : Int) := (by omega); have q6 : 0 < a0.size := (by have : (0 : Int) < (a0.size : Int) := of_decide_eq_true (by first | (with_reducible assumption) | assumption); omega); have hx6 : ∀ h : 0 < a0.size, ((a0[0]'h).toNat : Int) = bt a0 0 := bt_at a0 0; clear p6; have qi6 : (0 < (a0.size : Int)) = True := eq_true (of_decide_eq_true (by first | (with_reducible assumption) | assumption)); replace q6 := eq_true q6) | ((with_reducible refine gate_dst (N := 4) rfl ?_); refine box_event ?hg (N := 4) ?hd (cs := #[.int .u64 0, .int .u64 0, .int .u8 0, .int .u8 0, .int .u8 0, .int .u8 0, .int .u8 0, .int .u8 0, .int .u8 0, .int .u8 0, .int .u8 0, .int .u8 0, .string (⟨#[]⟩ : ByteArray)]) (t := 27) ?hr ?_; (case hd => rfl); (case hg => rfl); (case hr => first | (go_simp; done) | (go_simp; rfl)); intro gb306 hg w125 hbox hb; have n0_ := Aside0.mk (blk_below (g := gb305) (o := .cells #[.int .u64 0, .int .u64 0, .int .u8 0, .int .u8 0, .int .u8 0, .int .u8 0, .int .u8 0, .int .u8 0, .int .u8 0, .int .u8 0, .int .u8 0, .int .u8 0, .string (⟨#[]⟩ : ByteArray)] 27 (0, 0)) (by (with_reducible repeat (first | refine blk_drewN ?_ _ | refine blk_drew ?_ | refine blk_alloc ?_ _)); exact BK305.out) hb); have n1_ := Aside0.mk (below_step (by repeat (first | (with_reducible first | exact HB.out | apply below_alloc | apply pw_below_drewN | apply below_drew1 | refine below_set ?_ GE305.out) | exact HB.out)) hb); have n2_ := Aside0.mk (hbox); have n3_ := Aside0.mk ((by rw [hg]; exact (below_size (by repeat (first | (with_reducible first | exact HB.out | apply below_alloc | apply pw_below_drewN | apply below_drew1 | refine below_set ?_ GE305.out) | exact HB.out))) : w.heap.size ≤ gb306)); have n4_ := Aside0.mk ((by rw [hg]; exact (below_size (by repeat (first | (with_reducible first | exact HB.out | apply below_alloc | apply pw_below_drewN | apply below_drew1 | refine below_set ?_ GE305.out) | exact HB.out))) : w.heap.size ≤ gb306)); have n5_ := Aside0.mk ((by rw [hg]; exact Nat.ne_of_lt (blk_lt (g := gb305) (o := .cells #[.int .u64 0, .int .u64 0, .int .u8 0, .int .u8 0, .int .u8 0, .int .u8 0, .int .u8 0, .int .u8 0, .int .u8 0, .int .u8 0, .int .u8 0, .int .u8 0, .string (⟨#[]⟩ : ByteArray)] 27 (0, 0)) (by (with_reducible repeat (first | refine blk_drewN ?_ _ | refine blk_drew ?_ | refine blk_alloc ?_ _)); exact BK305.out)) : gb305 ≠ gb306)); have n6_ := Aside0.mk ((by rw [hg]; exact Nat.ne_of_gt (blk_lt (g := gb305) (o := .cells #[.int .u64 0, .int .u64 0, .int .u8 0, .int .u8 0, .int .u8 0, .int .u8 0, .int .u8 0, .int .u8 0, .int .u8 0, .int .u8 0, .int .u8 0, .int .u8 0, .string (⟨#[]⟩ : ByteArray)] 27 (0, 0)) (by (with_reducible repeat (first | refine blk_drewN ?_ _ | refine blk_drew ?_ | refine blk_alloc ?_ _)); exact BK305.out)) : gb306 ≠ gb305)); clear BK305; clear HB; have BK305 := n0_; have HB := n1_; have BK306 := n2_; have GW306 := n3_; have GE306 := n4_; have NB305_306 := n5_; have NB306_305 := n6_; clear n0_ n1_ n2_ n3_ n4_ n5_ n6_; clear hb hbox hg; have hnb126 := NB306_305.out; have hnc126 := NB305_306.out; have hcz127_0 : w125.cell? ⟨gb306, 0, none⟩ = some (.int .u64 0) := (blk_cell BK306.out 0).trans rfl; have hcz127_1 : w125.cell? ⟨gb306, 1, none⟩ = some (.int .u64 0) := (blk_cell BK306.out 1).trans rfl; have hcz127_2 : w125.cell? ⟨gb306, 2, none⟩ = some (.int .u8 0) := (blk_cell BK306.out 2).trans rfl; have hcz127_3 : w125.cell? ⟨gb306, 3, none⟩ = some (.int .u8 0) := (blk_cell BK306.out 3).trans rfl; have hcz127_4 : w125.cell? ⟨gb306, 4, none⟩ = some (.int .u8 0) := (blk_cell BK306.out 4).trans rfl; have hcz127_5 : w125.cell? ⟨gb306, 5, none⟩ = some (.int .u8 0) := (blk_cell BK306.out 5).trans rfl; have hcz127_6 : w125.cell? ⟨gb306, 6, none⟩ = some (.int .u8 0) := (blk_cell BK306.out 6).trans rfl; have hcz127_7 : w125.cell? ⟨gb306, 7, none⟩ = some (.int .u8 0) := (blk_cell BK306.out 7).trans rfl; have hcz127_8 : w125.cell? ⟨gb306, 8, none⟩ = some (.int .u8 0) := (blk_cell BK306.out 8).trans rfl; have hcz127_9 : w125.cell? ⟨gb306, 9, none⟩ = some (.int .u8 0) := (blk_cell BK306.out 9).trans rfl; have hcz127_10 : w125.cell? ⟨gb306, 10, none⟩ = some (.int .u8 0) := (blk_cell BK306.out 10).trans rfl; have hcz127_11 : w125.cell? ⟨gb306, 11, none⟩ = some (.int .u8 0) := (blk_cell BK306.out 11).trans rfl; have hcz127_12 : w125.cell? ⟨gb306, 12, none⟩ = some (.string (⟨#[]⟩ : ByteArray)) := (blk_cell BK306.out 12).trans rfl; have hfz127_0 := blk_frozen BK306.out 0; have hfz127_1 := blk_frozen BK306.out 1; have hfz127_2 := blk_frozen BK306.out 2; have hfz127_3 := blk_frozen BK306.out 3; have hfz127_4 := blk_frozen BK306.out 4; have hfz127_5 := blk_frozen BK306.out 5; have hfz127_6 := blk_frozen BK306.out 6; have hfz127_7 := blk_frozen BK306.out 7; have hfz127_8 := blk_frozen BK306.out 8; have hfz127_9 := blk_frozen BK306.out 9; have hfz127_10 := blk_frozen BK306.out 10; have hfz127_11 := blk_frozen BK306.out 11; have hfz127_12 := blk_frozen BK306.out 12) | ((with_reducible refine gate_callee (f := 29) rfl ?_); refine goesL_ (some 25) rfl rfl Try.func29 (by kernel_rfl) rfl #[.string (a0.extract 1 a0.size)] rfl (by (try simp only [List.map_toArray, List.map_cons, List.map_nil]); first | done | rfl | (simp only [List.length_drop, List.length_take]; rfl)) ?_; (with_reducible refine (wapentakeref01_ReadV.calls k (a0.extract 1 a0.size) t307 t308 false _ A8.out).mono ?_); rintro e w128 ⟨rfl, hb⟩; refine ⟨_, rfl, ?_⟩; have n0_ := Aside0.mk (blk_below (g := gb305) (o := .cells #[.int .u64 0, .int .u64 0, .int .u8 0, .int .u8 0, .int .u8 0, .int .u8 0, .int .u8 0, .int .u8 0, .int .u8 0, .int .u8 0, .int .u8 0, .int .u8 0, .string (⟨#[]⟩ : ByteArray)] 27 (0, 0)) (by (with_reducible repeat (first | refine blk_drewN ?_ _ | refine blk_drew ?_ | refine blk_alloc ?_ _)); refine blk_far ?_ NB305_306.out _; (with_reducible repeat (first | refine blk_drewN ?_ _ | refine blk_drew ?_ | refine blk_alloc ?_ _)); refine blk_far ?_ NB305_306.out _; (with_reducible repeat (first | refine blk_drewN ?_ _ | refine blk_drew ?_ | refine blk_alloc ?_ _)); refine blk_far ?_ NB305_306.out _; (with_reducible repeat (first | refine blk_drewN ?_ _ | refine blk_drew ?_ | refine blk_alloc ?_ _)); refine blk_far ?_ NB305_306.out _; (with_reducible repeat (first | refine blk_drewN ?_ _ | refine blk_drew ?_ | refine blk_alloc ?_ _)); refine blk_far ?_ NB305_306.out _; (with_reducible repeat (first | refine blk_drewN ?_ _ | refine blk_drew ?_ | refine blk_alloc ?_ _)); refine blk_far ?_ NB305_306.out _; (with_reducible repeat (first | refine blk_drewN ?_ _ | refine blk_drew ?_ | refine blk_alloc ?_ _)); refine blk_far ?_ NB305_306.out _; (with_reducible repeat (first | refine blk_drewN ?_ _ | refine blk_drew ?_ | refine blk_alloc ?_ _)); refine blk_far ?_ NB305_306.out _; (with_reducible repeat (first | refine blk_drewN ?_ _ | refine blk_drew ?_ | refine blk_alloc ?_ _)); refine blk_far ?_ NB305_306.out _; (with_reducible repeat (first | refine blk_drewN ?_ _ | refine blk_drew ?_ | refine blk_alloc ?_ _)); refine blk_far ?_ NB305_306.out _; (with_reducible repeat (first | refine blk_drewN ?_ _ | refine blk_drew ?_ | refine blk_alloc ?_ _)); refine blk_far ?_ NB305_306.out _; (with_reducible repeat (first | refine blk_drewN ?_ _ | refine blk_drew ?_ | refine blk_alloc ?_ _)); refine blk_far ?_ NB305_306.out _; (with_reducible repeat (first | refine blk_drewN ?_ _ | refine blk_drew ?_ | refine blk_alloc ?_ _)); refine blk_far ?_ NB305_306.out _; (with_reducible repeat (first | refine blk_drewN ?_ _ | refine blk_drew ?_ | refine blk_alloc ?_ _)); exact BK305.out) hb); have n1_ := Aside0.mk (blk_below (g := gb306) (o := .cells #[.int .u64 0, .int .u64 0, .int .u8 (bt a0 0), .int .u8 0, .int .u8 0, .int .u8 0, .int .u8 0, .int .u8 0, .int .u8 0, .int .u8 0, .int .u8 0, .int .u8 0, .string (⟨#[]⟩ : ByteArray)] 27 (0, 0)) (by (with_reducible repeat (first | refine blk_drewN ?_ _ | refine blk_drew ?_ | refine blk_alloc ?_ _)); refine blk_put (cs := #[.int .u64 0, .int .u64 0, .int .u8 (bt a0 0), .int .u8 0, .int .u8 0, .int .u8 0, .int .u8 0, .int .u8 0, .int .u8 0, .int .u8 0, .int .u8 0, .int .u8 0, .string (⟨#[]⟩ : ByteArray)]) ?_ 12 _ rfl; (with_reducible repeat (first | refine blk_drewN ?_ _ | refine blk_drew ?_ | refine blk_alloc ?_ _)); refine blk_put (cs := #[.int .u64 0, .int .u64 0, .int .u8 (bt a0 0), .int .u8 0, .int .u8 0, .int .u8 0, .int .u8 0, .int .u8 0, .int .u8 0, .int .u8 0, .int .u8 0, .int .u8 0, .string (⟨#[]⟩ : ByteArray)]) ?_ 11 _ rfl; (with_reducible repeat (first | refine blk_drewN ?_ _ | refine blk_drew ?_ | refine blk_alloc ?_ _)); refine blk_put (cs := #[.int .u64 0, .int .u64 0, .int .u8 (bt a0 0), .int .u8 0, .int .u8 0, .int .u8 0, .int .u8 0, .int .u8 0, .int .u8 0, .int .u8 0, .int .u8 0, .int .u8 0, .string (⟨#[]⟩ : ByteArray)]) ?_ 10 _ rfl; (with_reducible repeat (first | refine blk_drewN ?_ _ | refine blk_drew ?_ | refine blk_alloc ?_ _)); refine blk_put (cs := #[.int .u64 0, .int .u64 0, .int .u8 (bt a0 0), .int .u8 0, .int .u8 0, .int .u8 0, .int .u8 0, .int .u8 0, .int .u8 0, .int .u8 0, .int .u8 0, .int .u8 0, .string (⟨#[]⟩ : ByteArray)]) ?_ 9 _ rfl; (with_reducible repeat (first | refine blk_drewN ?_ _ | refine blk_drew ?_ | refine blk_alloc ?_ _)); refine blk_put (cs := #[.int .u64 0, .int .u64 0, .int .u8 (bt a0 0), .int .u8 0, .int .u8 0, .int .u8 0, .int .u8 0, .int .u8 0, .int .u8 0, .int .u8 0, .int .u8 0, .int .u8 0, .string (⟨#[]⟩ : ByteArray)]) ?_ 8 _ rfl; (with_reducible repeat (first | refine blk_drewN ?_ _ | refine blk_drew ?_ | refine blk_alloc ?_ _)); refine blk_put (cs := #[.int .u64 0, .int .u64 0, .int .u8 (bt a0 0), .int .u8 0, .int .u8 0, .int .u8 0, .int .u8 0, .int .u8 0, .int .u8 0, .int .u8 0, .int .u8 0, .int .u8 0, .string (⟨#[]⟩ : ByteArray)]) ?_ 7 _ rfl; (with_reducible repeat (first | refine blk_drewN ?_ _ | refine blk_drew ?_ | refine blk_alloc ?_ _)); refine blk_put (cs := #[.int .u64 0, .int .u64 0, .int .u8 (bt a0 0), .int .u8 0, .int .u8 0, .int .u8 0, .int .u8 0, .int .u8 0, .int .u8 0, .int .u8 0, .int .u8 0, .int .u8 0, .string (⟨#[]⟩ : ByteArray)]) ?_ 6 _ rfl; (with_reducible repeat (first | refine blk_drewN ?_ _ | refine blk_drew ?_ | refine blk_alloc ?_ _)); refine blk_put (cs := #[.int .u64 0, .int .u64 0, .int .u8 (bt a0 0), .int .u8 0, .int .u8 0, .int .u8 0, .int .u8 0, .int .u8 0, .int .u8 0, .int .u8 0, .int .u8 0, .int .u8 0, .string (⟨#[]⟩ : ByteArray)]) ?_ 5 _ rfl; (with_reducible repeat (first | refine blk_drewN ?_ _ | refine blk_drew ?_ | refine blk_alloc ?_ _)); refine blk_put (cs := #[.int .u64 0, .int .u64 0, .int .u8 (bt a0 0), .int .u8 0, .int .u8 0, .int .u8 0, .int .u8 0, .int .u8 0, .int .u8 0, .int .u8 0, .int .u8 0, .int .u8 0, .string (⟨#[]⟩ : ByteArray)]) ?_ 4 _ rfl; (with_reducible repeat (first | refine blk_drewN ?_ _ | refine blk_drew ?_ | refine blk_alloc ?_ _)); refine blk_put (cs := #[.int .u64 0, .int .u64 0, .int .u8 (bt a0 0), .int .u8 0, .int .u8 0, .int .u8 0, .int .u8 0, .int .u8 0, .int .u8 0, .int .u8 0, .int .u8 0, .int .u8 0, .string (⟨#[]⟩ : ByteArray)]) ?_ 3 _ rfl; (with_reducible repeat (first | refine blk_drewN ?_ _ | refine blk_drew ?_ | refine blk_alloc ?_ _)); refine blk_put (cs := #[.int .u64 0, .int .u64 0, .int .u8 0, .int .u8 0, .int .u8 0, .int .u8 0, .int .u8 0, .int .u8 0, .int .u8 0, .int .u8 0, .int .u8 0, .int .u8 0, .string (⟨#[]⟩ : ByteArray)]) ?_ 2 _ rfl; (with_reducible repeat (first | refine blk_drewN ?_ _ | refine blk_drew ?_ | refine blk_alloc ?_ _)); refine blk_put (cs := #[.int .u64 0, .int .u64 0, .int .u8 0, .int .u8 0, .int .u8 0, .int .u8 0, .int .u8 0, .int .u8 0, .int .u8 0, .int .u8 0, .int .u8 0, .int .u8 0, .string (⟨#[]⟩ : ByteArray)]) ?_ 1 _ rfl; (with_reducible repeat (first | refine blk_drewN ?_ _ | refine blk_drew ?_ | refine blk_alloc ?_ _)); refine blk_put (cs := #[.int .u64 0, .int .u64 0, .int .u8 0, .int .u8 0, .int .u8 0, .int .u8 0, .int .u8 0, .int .u8 0, .int .u8 0, .int .u8 0, .int .u8 0, .int .u8 0, .string (⟨#[]⟩ : ByteArray)]) ?_ 0 _ rfl; (with_reducible repeat (first | refine blk_drewN ?_ _ | refine blk_drew ?_ | refine blk_alloc ?_ _)); exact BK306.out) hb); have n2_ := Aside0.mk (below_step (by repeat (first | (with_reducible first | exact HB.out | apply below_alloc | apply pw_below_drewN | apply below_drew1 | refine below_set ?_ GE305.out | refine below_set ?_ GE306.out) | exact HB.out)) hb); clear BK305; clear BK306; clear HB; have BK305 := n0_; have BK306 := n1_; have HB := n2_; clear n0_ n1_ n2_; (try clear hb); (try clear hb2); (try clear hk); (try clear hi); have hcz129_0 : w128.cell? ⟨gb305, 0, none⟩ = some (.int .u64 0) := (blk_cell BK305.out 0).trans rfl; have hcz129_1 : w128.cell? ⟨gb305, 1, none⟩ = some (.int .u64 0) := (blk_cell BK305.out 1).trans rfl; have hcz129_2 : w128.cell? ⟨gb305, 2, none⟩ = some (.int .u8 0) := (blk_cell BK305.out 2).trans rfl; have hcz129_3 : w128.cell? ⟨gb305, 3, none⟩ = some (.int .u8 0) := (blk_cell BK305.out 3).trans rfl; have hcz129_4 : w128.cell? ⟨gb305, 4, none⟩ = some (.int .u8 0) := (blk_cell BK305.out 4).trans rfl; have hcz129_5 : w128.cell? ⟨gb305, 5, none⟩ = some (.int .u8 0) := (blk_cell BK305.out 5).trans rfl; have hcz129_6 : w128.cell? ⟨gb305, 6, none⟩ = some (.int .u8 0) := (blk_cell BK305.out 6).trans rfl; have hcz129_7 : w128.cell? ⟨gb305, 7, none⟩ = some (.int .u8 0) := (blk_cell BK305.out 7).trans rfl; have hcz129_8 : w128.cell? ⟨gb305, 8, none⟩ = some (.int .u8 0) := (blk_cell BK305.out 8).trans rfl; have hcz129_9 : w128.cell? ⟨gb305, 9, none⟩ = some (.int .u8 0) := (blk_cell BK305.out 9).trans rfl; have hcz129_10 : w128.cell? ⟨gb305, 10, none⟩ = some (.int .u8 0) := (blk_cell BK305.out 10).trans rfl; have hcz129_11 : w128.cell? ⟨gb305, 11, none⟩ = some (.int .u8 0) := (blk_cell BK305.out 11).trans rfl; have hcz129_12 : w128.cell? ⟨gb305, 12, none⟩ = some (.string (⟨#[]⟩ : ByteArray)) := (blk_cell BK305.out 12).trans rfl; have hfz129_0 := blk_frozen BK305.out 0; have hfz129_1 := blk_frozen BK305.out 1; have hfz129_2 := blk_frozen BK305.out 2; have hfz129_3 := blk_frozen BK305.out 3; have hfz129_4 := blk_frozen BK305.out 4; have hfz129_5 := blk_frozen BK305.out 5; have hfz129_6 := blk_frozen BK305.out 6; have hfz129_7 := blk_frozen BK305.out 7; have hfz129_8 := blk_frozen BK305.out 8; have hfz129_9 := blk_frozen BK305.out 9; have hfz129_10 := blk_frozen BK305.out 10; have hfz129_11 := blk_frozen BK305.out 11; have hfz129_12 := blk_frozen BK305.out 12))
     refine bodyPost_ret (results_ct rfl _ _ gb305 27 #[.int .u64 0, .int .u64 0, .int .u8 0, .int .u8 0, .int .u8 0, .int .u8 0, .int .u8 0, .int .u8 0, .int .u8 0, .int .u8 0, .int .u8 0, .int .u8 0, .string (⟨#[]⟩ : ByteArray)] (0, 0) _ rfl (by (with_reducible repeat (first | refine blk_drewN ?_ _ | refine blk_drew ?_ | refine blk_alloc ?_ _)); refine blk_put (cs := #[.int .u64 0, .int .u64 0, .int .u8 0, .int .u8 0, .int .u8 0, .int .u8 0, .int .u8 0, .int .u8 0, .int .u8 0, .int .u8 0, .int .u8 0, .int .u8 0, .string (⟨#[]⟩ : ByteArray)]) ?_ 12 _ rfl; (with_reducible repeat (first | refine blk_drewN ?_ _ | refine blk_drew ?_ | refine blk_alloc ?_ _)); refine blk_put (cs := #[.int .u64 0, .int .u64 0, .int .u8 0, .int .u8 0, .int .u8 0, .int .u8 0, .int .u8 0, .int .u8 0, .int .u8 0, .int .u8 0, .int .u8 0, .int .u8 0, .string (⟨#[]⟩ : ByteArray)]) ?_ 11 _ rfl; (with_reducible repeat (first | refine blk_drewN ?_ _ | refine blk_drew ?_ | refine blk_alloc ?_ _)); refine blk_put (cs := #[.int .u64 0, .int .u64 0, .int .u8 0, .int .u8 0, .int .u8 0, .int .u8 0, .int .u8 0, .int .u8 0, .int .u8 0, .int .u8 0, .int .u8 0, .int .u8 0, .string (⟨#[]⟩ : ByteArray)]) ?_ 10 _ rfl; (with_reducible repeat (first | refine blk_drewN ?_ _ | refine blk_drew ?_ | refine blk_alloc ?_ _)); refine blk_put (cs := #[.int .u64 0, .int .u64 0, .int .u8 0, .int .u8 0, .int .u8 0, .int .u8 0, .int .u8 0, .int .u8 0, .int .u8 0, .int .u8 0, .int .u8 0, .int .u8 0, .string (⟨#[]⟩ : ByteArray)]) ?_ 9 _ rfl; (with_reducible repeat (first | refine blk_drewN ?_ _ | refine blk_drew ?_ | refine blk_alloc ?_ _)); refine blk_put (cs := #[.int .u64 0, .int .u64 0, .int .u8 0, .int .u8 0, .int .u8 0, .int .u8 0, .int .u8 0, .int .u8 0, .int .u8 0, .int .u8 0, .int .u8 0, .int .u8 0, .string (⟨#[]⟩ : ByteArray)]) ?_ 8 _ rfl; (with_reducible repeat (first | refine blk_drewN ?_ _ | refine blk_drew ?_ | refine blk_alloc ?_ _)); refine blk_put (cs := #[.int .u64 0, .int .u64 0, .int .u8 0, .int .u8 0, .int .u8 0, .int .u8 0, .int .u8 0, .int .u8 0, .int .u8 0, .int .u8 0, .int .u8 0, .int .u8 0, .string (⟨#[]⟩ : ByteArray)]) ?_ 7 _ rfl; (with_reducible repeat (first | refine blk_drewN ?_ _ | refine blk_drew ?_ | refine blk_alloc ?_ _)); refine blk_put (cs := #[.int .u64 0, .int .u64 0, .int .u8 0, .int .u8 0, .int .u8 0, .int .u8 0, .int .u8 0, .int .u8 0, .int .u8 0, .int .u8 0, .int .u8 0, .int .u8 0, .string (⟨#[]⟩ : ByteArray)]) ?_ 6 _ rfl; (with_reducible repeat (first | refine blk_drewN ?_ _ | refine blk_drew ?_ | refine blk_alloc ?_ _)); refine blk_put (cs := #[.int .u64 0, .int .u64 0, .int .u8 0, .int .u8 0, .int .u8 0, .int .u8 0, .int .u8 0, .int .u8 0, .int .u8 0, .int .u8 0, .int .u8 0, .int .u8 0, .string (⟨#[]⟩ : ByteArray)]) ?_ 5 _ rfl; (with_reducible repeat (first | refine blk_drewN ?_ _ | refine blk_drew ?_ | refine blk_alloc ?_ _)); refine blk_put (cs := #[.int .u64 0, .int .u64 0, .int .u8 0, .int .u8 0, .int .u8 0, .int .u8 0, .int .u8 0, .int .u8 0, .int .u8 0, .int .u8 0, .int .u8 0, .int .u8 0, .string (⟨#[]⟩ : ByteArray)]) ?_ 4 _ rfl; (with_reducible repeat (first | refine blk_drewN ?_ _ | refine blk_drew ?_ | refine blk_alloc ?_ _)); refine blk_put (cs := #[.int .u64 0, .int .u64 0, .int .u8 0, .int .u8 0, .int .u8 0, .int .u8 0, .int .u8 0, .int .u8 0, .int .u8 0, .int .u8 0, .int .u8 0, .int .u8 0, .string (⟨#[]⟩ : ByteArray)]) ?_ 3 _ rfl; (with_reducible repeat (first | refine blk_drewN ?_ _ | refine blk_drew ?_ | refine blk_alloc ?_ _)); refine blk_put (cs := #[.int .u64 0, .int .u64 0, .int .u8 0, .int .u8 0, .int .u8 0, .int .u8 0, .int .u8 0, .int .u8 0, .int .u8 0, .int .u8 0, .int .u8 0, .int .u8 0, .string (⟨#[]⟩ : ByteArray)]) ?_ 2 _ rfl; (with_reducible repeat (first | refine blk_drewN ?_ _ | refine blk_drew ?_ | refine blk_alloc ?_ _)); refine blk_put (cs := #[.int .u64 0, .int .u64 0, .int .u8 0, .int .u8 0, .int .u8 0, .int .u8 0, .int .u8 0, .int .u8 0, .int .u8 0, .int .u8 0, .int .u8 0, .int .u8 0, .string (⟨#[]⟩ : ByteArray)]) ?_ 1 _ rfl; (with_reducible repeat (first | refine blk_drewN ?_ _ | refine blk_drew ?_ | refine blk_alloc ?_ _)); refine blk_put (cs := #[.int .u64 0, .int .u64 0, .int .u8 0, .int .u8 0, .int .u8 0, .int .u8 0, .int .u8 0, .int .u8 0, .int .u8 0, .int .u8 0, .int .u8 0, .int .u8 0, .string (⟨#[]⟩ : ByteArray)]) ?_ 0 _ rfl; (with_reducible repeat (first | refine blk_drewN ?_ _ | refine blk_drew ?_ | refine blk_alloc ?_ _)); exact BK305.out) Try.underlying27 rfl (by kernel_rfl)) rfl ?_
     exact ⟨by first | rfl | (simp [errW_none, errW_some] <;> rfl) | (simp [*, errW_none, errW_some] <;> rfl), by repeat (first | (with_reducible first | exact HB.out | apply below_alloc | apply pw_below_drewN | apply below_drew1 | refine below_set ?_ GE305.out | refine below_set ?_ GE306.out) | exact HB.out)⟩
   ·rw [if_neg c7] at H
    exact absurd H (by simp)
  ·rw [if_neg c5] at H
   exact absurd H (by simp)

end Go.Proofs.Ytimfgflcflhfcaa.P
