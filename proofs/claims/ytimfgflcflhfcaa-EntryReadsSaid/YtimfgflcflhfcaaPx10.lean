-- Written by wip/tools/myprint.sh out of the translation, over the kit's print with a patch. Not trusted: Lean checks it.
import Derived.Test.YtimfgflcflhfcaaPx0
import Derived.Test.YtimfgflcflhfcaaPx2
import Derived.Test.YtimfgflcflhfcaaPx5
import Derived.Test.YtimfgflcflhfcaaPx7
import Derived.Test.YtimfgflcflhfcaaPx8
import Derived.Test.YtimfgflcflhfcaaPx9
namespace Go.Proofs.Ytimfgflcflhfcaa.P
open Go.RowKit Go.Proofs.YtimfgflcflhfcaaW.PrintWords Go.Proofs.YtimfgflcflhfcaaW.PrintLast Go.Proofs.YtimfgflcflhfcaaW.PrintMore Go.Proofs.Ytimfgflcflhfcaa.Num
attribute [local go_sem] max2_int min2_int max_two min_two max_three min_three max_four min_four   -- for this text's walks alone
set_option linter.unusedVariables false
set_option linter.unusedSimpArgs false

attribute [local go_sem high] eqA27
def bq_10_ (n m : Nat) : Array Bool := ((List.range n).map fun i => m.testBit i).toArray
theorem zA10_ {α : Type} (l : List α) (i : Nat) (a : α) : l.toArray.setIfInBounds i a = (l.set i a).toArray := List.setIfInBounds_toArray ..
theorem zB10_ {α : Type} (a b : α) (l : List α) : (a :: l).set 0 b = b :: l := List.set_cons_zero ..
theorem zC10_ {α : Type} (a b : α) (l : List α) (n : Nat) : (a :: l).set (n + 1) b = a :: l.set n b := List.set_cons_succ ..
/-! ### wapentakelaw04_awake: function 14 -/
def wapentakelaw04_awake.f (k : Nat)  : Option (Bool) := (wapentakelaw04_some.f).bind fun bt143 => ((entry_Write.f k bt143.1 bt143.2.1 bt143.2.2.1 bt143.2.2.2.1 bt143.2.2.2.2.1 bt143.2.2.2.2.2.1 bt143.2.2.2.2.2.2.1 bt143.2.2.2.2.2.2.2.1 bt143.2.2.2.2.2.2.2.2.1 bt143.2.2.2.2.2.2.2.2.2.1 bt143.2.2.2.2.2.2.2.2.2.2.1 bt143.2.2.2.2.2.2.2.2.2.2.2.1 bt143.2.2.2.2.2.2.2.2.2.2.2.2).bind fun t156 => ((entry_Read.f k t156).bind fun bt157 => ((entry_Members.f k 13).bind fun t172 => ((wapentakelaw04_some.f).bind fun bt175 => ((entry_Write.f k bt175.1 bt175.2.1 bt175.2.2.1 bt175.2.2.2.1 bt175.2.2.2.2.1 bt175.2.2.2.2.2.1 bt175.2.2.2.2.2.2.1 bt175.2.2.2.2.2.2.2.1 bt175.2.2.2.2.2.2.2.2.1 bt175.2.2.2.2.2.2.2.2.2.1 bt175.2.2.2.2.2.2.2.2.2.2.1 bt175.2.2.2.2.2.2.2.2.2.2.2.1 bt175.2.2.2.2.2.2.2.2.2.2.2.2).bind fun t188 => (if t188.toList = ([3, 3, 1, 2, 49, 50, 51, 52, 53, 54, 55, 56, 2, 120, 121] : List UInt8) then (if bt157.2.2.2.2.2.2.2.2.2.2.2.2.2 = true then ((wapentakelaw04_some.f).bind fun bt189 => (if (bt157.1 == bt189.1 && (bt157.2.1 == bt189.2.1 && (bt157.2.2.1 == bt189.2.2.1 && (bt157.2.2.2.1 == bt189.2.2.2.1 && ((bt157.2.2.2.2.1 == bt189.2.2.2.2.1 && (bt157.2.2.2.2.2.1 == bt189.2.2.2.2.2.1 && (bt157.2.2.2.2.2.2.1 == bt189.2.2.2.2.2.2.1 && (bt157.2.2.2.2.2.2.2.1 == bt189.2.2.2.2.2.2.2.1 && (bt157.2.2.2.2.2.2.2.2.1 == bt189.2.2.2.2.2.2.2.2.1 && (bt157.2.2.2.2.2.2.2.2.2.1 == bt189.2.2.2.2.2.2.2.2.2.1 && (bt157.2.2.2.2.2.2.2.2.2.2.1 == bt189.2.2.2.2.2.2.2.2.2.2.1 && (bt157.2.2.2.2.2.2.2.2.2.2.2.1 == bt189.2.2.2.2.2.2.2.2.2.2.2.1)))))))) && (bt157.2.2.2.2.2.2.2.2.2.2.2.2.1.toList == bt189.2.2.2.2.2.2.2.2.2.2.2.2.toList)))))) = true then (if (t172.length : Int) = 3 then (if 2 < (t172.length : Int) then (if (rd t172 2) = 4 then ((entry_Majority.f 13).bind fun t203 => (some (t203 == 2))) else (some false)) else (none)) else (some false)) else (some false))) else (some false)) else (some false)))))))
theorem wapentakelaw04_awake.mono : ∀ k, LeO (wapentakelaw04_awake.f k ) (wapentakelaw04_awake.f (k + 1) ) := by
 intro  k
 unfold wapentakelaw04_awake.f
 repeat' first
   | (with_reducible exact entry_Members.mono _ _)
   | (with_reducible exact entry_Read.mono _ _)
   | (with_reducible exact entry_Write.mono _ _ _ _ _ _ _ _ _ _ _ _ _ _)
   | (with_reducible exact LeO.refl _)
   | (with_reducible exact LeO.none _)
   | (with_reducible refine LeO.ite ?_ ?_)
   | (with_reducible refine LeO.bind ?_ (fun _ => ?_))
   | exact entry_Members.mono _ _
   | exact entry_Read.mono _ _
   | exact entry_Write.mono _ _ _ _ _ _ _ _ _ _ _ _ _ _
   | exact LeO.none _
   | refine LeO.ite ?_ ?_
   | refine LeO.bind ?_ (fun _ => ?_)
def wapentakelaw04_awake.T3 : Bool × List (List Nat × List Nat) := (true, [([], []), ([0, 0], [0]), ([1], [1]), ([2, 1], [2]), ([3], [3]), ([3, 4], [3, 4]), ([5, 3], [5]), ([6], [6]), ([6, 6], [6]), ([7, 8, 6], [6, 7, 8]), ([6, 9], [6, 9]), ([10, 8], [10]), ([11], [11]), ([12, 11], [11, 12]), ([13, 11], [11, 13]), ([11, 14], [11, 14]), ([15, 11], [15]), ([16], [16]), ([17, 16], [16, 17]), ([18, 16], [16, 18]), ([19, 16], [16, 19]), ([16, 20], [16, 20]), ([21, 16], [21]), ([22, 22], [22]), ([23, 22], [22, 23]), ([22, 24], [22, 24]), ([25, 23, 0, 1, 2, 3, 4, 5, 6, 7, 8, 9, 10, 11, 12, 13, 14, 15, 16, 17, 18, 19, 20, 21, 22, 23, 24, 25], [25])])
def wapentakelaw04_awake.B3 : List Nat := [0, 1, 3, 7, 15, 31, 63, 127, 127, 511, 1023, 2047, 4095, 8191, 16383, 32767, 65535, 131071, 262143, 524287, 1048575, 2097151, 4194303, 8388607, 16777215, 33554431, 67108863]
theorem wapentakelaw04_awake.tab3 : rtab .any (opsOf Try.f14 3) = wapentakelaw04_awake.T3 := by kernel_rfl
theorem wapentakelaw04_awake.bits3 : waitsOk wapentakelaw04_awake.T3.2 wapentakelaw04_awake.B3 = true := by kernel_rfl
set_option maxHeartbeats 8000000 in
set_option maxRecDepth 100000 in
theorem wapentakelaw04_awake.calls (k : Nat)  (r : Bool) (w : World) (h : wapentakelaw04_awake.f k  = some r) :
  Calls Try.prog 14 #[] w fun e w' => e = .returned (.bool r) ∧ Below w.heap.size w w' := by
 have hu27 := Try.underlying27
 have HB := Aside0.mk (Below.refl w.heap.size w)
 have H : ((wapentakelaw04_some.f).bind fun bt143 => ((entry_Write.f k bt143.1 bt143.2.1 bt143.2.2.1 bt143.2.2.2.1 bt143.2.2.2.2.1 bt143.2.2.2.2.2.1 bt143.2.2.2.2.2.2.1 bt143.2.2.2.2.2.2.2.1 bt143.2.2.2.2.2.2.2.2.1 bt143.2.2.2.2.2.2.2.2.2.1 bt143.2.2.2.2.2.2.2.2.2.2.1 bt143.2.2.2.2.2.2.2.2.2.2.2.1 bt143.2.2.2.2.2.2.2.2.2.2.2.2).bind fun t156 => ((entry_Read.f k t156).bind fun bt157 => ((entry_Members.f k 13).bind fun t172 => ((wapentakelaw04_some.f).bind fun bt175 => ((entry_Write.f k bt175.1 bt175.2.1 bt175.2.2.1 bt175.2.2.2.1 bt175.2.2.2.2.1 bt175.2.2.2.2.2.1 bt175.2.2.2.2.2.2.1 bt175.2.2.2.2.2.2.2.1 bt175.2.2.2.2.2.2.2.2.1 bt175.2.2.2.2.2.2.2.2.2.1 bt175.2.2.2.2.2.2.2.2.2.2.1 bt175.2.2.2.2.2.2.2.2.2.2.2.1 bt175.2.2.2.2.2.2.2.2.2.2.2.2).bind fun t188 => (if t188.toList = ([3, 3, 1, 2, 49, 50, 51, 52, 53, 54, 55, 56, 2, 120, 121] : List UInt8) then (if bt157.2.2.2.2.2.2.2.2.2.2.2.2.2 = true then ((wapentakelaw04_some.f).bind fun bt189 => (if (bt157.1 == bt189.1 && (bt157.2.1 == bt189.2.1 && (bt157.2.2.1 == bt189.2.2.1 && (bt157.2.2.2.1 == bt189.2.2.2.1 && ((bt157.2.2.2.2.1 == bt189.2.2.2.2.1 && (bt157.2.2.2.2.2.1 == bt189.2.2.2.2.2.1 && (bt157.2.2.2.2.2.2.1 == bt189.2.2.2.2.2.2.1 && (bt157.2.2.2.2.2.2.2.1 == bt189.2.2.2.2.2.2.2.1 && (bt157.2.2.2.2.2.2.2.2.1 == bt189.2.2.2.2.2.2.2.2.1 && (bt157.2.2.2.2.2.2.2.2.2.1 == bt189.2.2.2.2.2.2.2.2.2.1 && (bt157.2.2.2.2.2.2.2.2.2.2.1 == bt189.2.2.2.2.2.2.2.2.2.2.1 && (bt157.2.2.2.2.2.2.2.2.2.2.2.1 == bt189.2.2.2.2.2.2.2.2.2.2.2.1)))))))) && (bt157.2.2.2.2.2.2.2.2.2.2.2.2.1.toList == bt189.2.2.2.2.2.2.2.2.2.2.2.2.toList)))))) = true then (if (t172.length : Int) = 3 then (if 2 < (t172.length : Int) then (if (rd t172 2) = 4 then ((entry_Majority.f 13).bind fun t203 => (some (t203 == 2))) else (some false)) else (none)) else (some false)) else (some false))) else (some false)) else (some false)))))))) = some r := h
 clear h
 replace H := Option.bind_eq_some_iff.mp H
 obtain ⟨⟨t143, t144, t145, t146, t147, t148, t149, t150, t151, t152, t153, t154, t155⟩, A10, H⟩ := H
 replace H : ((entry_Write.f k t143 t144 t145 t146 t147 t148 t149 t150 t151 t152 t153 t154 t155).bind fun t156 => ((entry_Read.f k t156).bind fun bt157 => ((entry_Members.f k 13).bind fun t172 => ((wapentakelaw04_some.f).bind fun bt175 => ((entry_Write.f k bt175.1 bt175.2.1 bt175.2.2.1 bt175.2.2.2.1 bt175.2.2.2.2.1 bt175.2.2.2.2.2.1 bt175.2.2.2.2.2.2.1 bt175.2.2.2.2.2.2.2.1 bt175.2.2.2.2.2.2.2.2.1 bt175.2.2.2.2.2.2.2.2.2.1 bt175.2.2.2.2.2.2.2.2.2.2.1 bt175.2.2.2.2.2.2.2.2.2.2.2.1 bt175.2.2.2.2.2.2.2.2.2.2.2.2).bind fun t188 => (if t188.toList = ([3, 3, 1, 2, 49, 50, 51, 52, 53, 54, 55, 56, 2, 120, 121] : List UInt8) then (if bt157.2.2.2.2.2.2.2.2.2.2.2.2.2 = true then ((wapentakelaw04_some.f).bind fun bt189 => (if (bt157.1 == bt189.1 && (bt157.2.1 == bt189.2.1 && (bt157.2.2.1 == bt189.2.2.1 && (bt157.2.2.2.1 == bt189.2.2.2.1 && ((bt157.2.2.2.2.1 == bt189.2.2.2.2.1 && (bt157.2.2.2.2.2.1 == bt189.2.2.2.2.2.1 && (bt157.2.2.2.2.2.2.1 == bt189.2.2.2.2.2.2.1 && (bt157.2.2.2.2.2.2.2.1 == bt189.2.2.2.2.2.2.2.1 && (bt157.2.2.2.2.2.2.2.2.1 == bt189.2.2.2.2.2.2.2.2.1 && (bt157.2.2.2.2.2.2.2.2.2.1 == bt189.2.2.2.2.2.2.2.2.2.1 && (bt157.2.2.2.2.2.2.2.2.2.2.1 == bt189.2.2.2.2.2.2.2.2.2.2.1 && (bt157.2.2.2.2.2.2.2.2.2.2.2.1 == bt189.2.2.2.2.2.2.2.2.2.2.2.1)))))))) && (bt157.2.2.2.2.2.2.2.2.2.2.2.2.1.toList == bt189.2.2.2.2.2.2.2.2.2.2.2.2.toList)))))) = true then (if (t172.length : Int) = 3 then (if 2 < (t172.length : Int) then (if (rd t172 2) = 4 then ((entry_Majority.f 13).bind fun t203 => (some (t203 == 2))) else (some false)) else (none)) else (some false)) else (some false))) else (some false)) else (some false))))))) = some r := H
 have A1 := Aside0.mk A10
 clear A10
 replace H := Option.bind_eq_some_iff.mp H
 obtain ⟨t156, A20, H⟩ := H
 replace H : ((entry_Read.f k t156).bind fun bt157 => ((entry_Members.f k 13).bind fun t172 => ((wapentakelaw04_some.f).bind fun bt175 => ((entry_Write.f k bt175.1 bt175.2.1 bt175.2.2.1 bt175.2.2.2.1 bt175.2.2.2.2.1 bt175.2.2.2.2.2.1 bt175.2.2.2.2.2.2.1 bt175.2.2.2.2.2.2.2.1 bt175.2.2.2.2.2.2.2.2.1 bt175.2.2.2.2.2.2.2.2.2.1 bt175.2.2.2.2.2.2.2.2.2.2.1 bt175.2.2.2.2.2.2.2.2.2.2.2.1 bt175.2.2.2.2.2.2.2.2.2.2.2.2).bind fun t188 => (if t188.toList = ([3, 3, 1, 2, 49, 50, 51, 52, 53, 54, 55, 56, 2, 120, 121] : List UInt8) then (if bt157.2.2.2.2.2.2.2.2.2.2.2.2.2 = true then ((wapentakelaw04_some.f).bind fun bt189 => (if (bt157.1 == bt189.1 && (bt157.2.1 == bt189.2.1 && (bt157.2.2.1 == bt189.2.2.1 && (bt157.2.2.2.1 == bt189.2.2.2.1 && ((bt157.2.2.2.2.1 == bt189.2.2.2.2.1 && (bt157.2.2.2.2.2.1 == bt189.2.2.2.2.2.1 && (bt157.2.2.2.2.2.2.1 == bt189.2.2.2.2.2.2.1 && (bt157.2.2.2.2.2.2.2.1 == bt189.2.2.2.2.2.2.2.1 && (bt157.2.2.2.2.2.2.2.2.1 == bt189.2.2.2.2.2.2.2.2.1 && (bt157.2.2.2.2.2.2.2.2.2.1 == bt189.2.2.2.2.2.2.2.2.2.1 && (bt157.2.2.2.2.2.2.2.2.2.2.1 == bt189.2.2.2.2.2.2.2.2.2.2.1 && (bt157.2.2.2.2.2.2.2.2.2.2.2.1 == bt189.2.2.2.2.2.2.2.2.2.2.2.1)))))))) && (bt157.2.2.2.2.2.2.2.2.2.2.2.2.1.toList == bt189.2.2.2.2.2.2.2.2.2.2.2.2.toList)))))) = true then (if (t172.length : Int) = 3 then (if 2 < (t172.length : Int) then (if (rd t172 2) = 4 then ((entry_Majority.f 13).bind fun t203 => (some (t203 == 2))) else (some false)) else (none)) else (some false)) else (some false))) else (some false)) else (some false)))))) = some r := H
 have A2 := Aside0.mk A20
 clear A20
 replace H := Option.bind_eq_some_iff.mp H
 obtain ⟨⟨t157, t158, t159, t160, t161, t162, t163, t164, t165, t166, t167, t168, t169, t170⟩, A30, H⟩ := H
 replace H : ((entry_Members.f k 13).bind fun t172 => ((wapentakelaw04_some.f).bind fun bt175 => ((entry_Write.f k bt175.1 bt175.2.1 bt175.2.2.1 bt175.2.2.2.1 bt175.2.2.2.2.1 bt175.2.2.2.2.2.1 bt175.2.2.2.2.2.2.1 bt175.2.2.2.2.2.2.2.1 bt175.2.2.2.2.2.2.2.2.1 bt175.2.2.2.2.2.2.2.2.2.1 bt175.2.2.2.2.2.2.2.2.2.2.1 bt175.2.2.2.2.2.2.2.2.2.2.2.1 bt175.2.2.2.2.2.2.2.2.2.2.2.2).bind fun t188 => (if t188.toList = ([3, 3, 1, 2, 49, 50, 51, 52, 53, 54, 55, 56, 2, 120, 121] : List UInt8) then (if t170 = true then ((wapentakelaw04_some.f).bind fun bt189 => (if (t157 == bt189.1 && (t158 == bt189.2.1 && (t159 == bt189.2.2.1 && (t160 == bt189.2.2.2.1 && ((t161 == bt189.2.2.2.2.1 && (t162 == bt189.2.2.2.2.2.1 && (t163 == bt189.2.2.2.2.2.2.1 && (t164 == bt189.2.2.2.2.2.2.2.1 && (t165 == bt189.2.2.2.2.2.2.2.2.1 && (t166 == bt189.2.2.2.2.2.2.2.2.2.1 && (t167 == bt189.2.2.2.2.2.2.2.2.2.2.1 && (t168 == bt189.2.2.2.2.2.2.2.2.2.2.2.1)))))))) && (t169.toList == bt189.2.2.2.2.2.2.2.2.2.2.2.2.toList)))))) = true then (if (t172.length : Int) = 3 then (if 2 < (t172.length : Int) then (if (rd t172 2) = 4 then ((entry_Majority.f 13).bind fun t203 => (some (t203 == 2))) else (some false)) else (none)) else (some false)) else (some false))) else (some false)) else (some false))))) = some r := H
 have A3 := Aside0.mk A30
 clear A30
 replace H := Option.bind_eq_some_iff.mp H
 obtain ⟨t172, A40, H⟩ := H
 replace H : ((wapentakelaw04_some.f).bind fun bt175 => ((entry_Write.f k bt175.1 bt175.2.1 bt175.2.2.1 bt175.2.2.2.1 bt175.2.2.2.2.1 bt175.2.2.2.2.2.1 bt175.2.2.2.2.2.2.1 bt175.2.2.2.2.2.2.2.1 bt175.2.2.2.2.2.2.2.2.1 bt175.2.2.2.2.2.2.2.2.2.1 bt175.2.2.2.2.2.2.2.2.2.2.1 bt175.2.2.2.2.2.2.2.2.2.2.2.1 bt175.2.2.2.2.2.2.2.2.2.2.2.2).bind fun t188 => (if t188.toList = ([3, 3, 1, 2, 49, 50, 51, 52, 53, 54, 55, 56, 2, 120, 121] : List UInt8) then (if t170 = true then ((wapentakelaw04_some.f).bind fun bt189 => (if (t157 == bt189.1 && (t158 == bt189.2.1 && (t159 == bt189.2.2.1 && (t160 == bt189.2.2.2.1 && ((t161 == bt189.2.2.2.2.1 && (t162 == bt189.2.2.2.2.2.1 && (t163 == bt189.2.2.2.2.2.2.1 && (t164 == bt189.2.2.2.2.2.2.2.1 && (t165 == bt189.2.2.2.2.2.2.2.2.1 && (t166 == bt189.2.2.2.2.2.2.2.2.2.1 && (t167 == bt189.2.2.2.2.2.2.2.2.2.2.1 && (t168 == bt189.2.2.2.2.2.2.2.2.2.2.2.1)))))))) && (t169.toList == bt189.2.2.2.2.2.2.2.2.2.2.2.2.toList)))))) = true then (if (t172.length : Int) = 3 then (if 2 < (t172.length : Int) then (if (rd t172 2) = 4 then ((entry_Majority.f 13).bind fun t203 => (some (t203 == 2))) else (some false)) else (none)) else (some false)) else (some false))) else (some false)) else (some false)))) = some r := H
 have A4 := Aside0.mk A40
 clear A40
 replace H := Option.bind_eq_some_iff.mp H
 obtain ⟨⟨t175, t176, t177, t178, t179, t180, t181, t182, t183, t184, t185, t186, t187⟩, A50, H⟩ := H
 replace H : ((entry_Write.f k t175 t176 t177 t178 t179 t180 t181 t182 t183 t184 t185 t186 t187).bind fun t188 => (if t188.toList = ([3, 3, 1, 2, 49, 50, 51, 52, 53, 54, 55, 56, 2, 120, 121] : List UInt8) then (if t170 = true then ((wapentakelaw04_some.f).bind fun bt189 => (if (t157 == bt189.1 && (t158 == bt189.2.1 && (t159 == bt189.2.2.1 && (t160 == bt189.2.2.2.1 && ((t161 == bt189.2.2.2.2.1 && (t162 == bt189.2.2.2.2.2.1 && (t163 == bt189.2.2.2.2.2.2.1 && (t164 == bt189.2.2.2.2.2.2.2.1 && (t165 == bt189.2.2.2.2.2.2.2.2.1 && (t166 == bt189.2.2.2.2.2.2.2.2.2.1 && (t167 == bt189.2.2.2.2.2.2.2.2.2.2.1 && (t168 == bt189.2.2.2.2.2.2.2.2.2.2.2.1)))))))) && (t169.toList == bt189.2.2.2.2.2.2.2.2.2.2.2.2.toList)))))) = true then (if (t172.length : Int) = 3 then (if 2 < (t172.length : Int) then (if (rd t172 2) = 4 then ((entry_Majority.f 13).bind fun t203 => (some (t203 == 2))) else (some false)) else (none)) else (some false)) else (some false))) else (some false)) else (some false))) = some r := H
 have A5 := Aside0.mk A50
 clear A50
 replace H := Option.bind_eq_some_iff.mp H
 obtain ⟨t188, A60, H⟩ := H
 replace H : (if t188.toList = ([3, 3, 1, 2, 49, 50, 51, 52, 53, 54, 55, 56, 2, 120, 121] : List UInt8) then (if t170 = true then ((wapentakelaw04_some.f).bind fun bt189 => (if (t157 == bt189.1 && (t158 == bt189.2.1 && (t159 == bt189.2.2.1 && (t160 == bt189.2.2.2.1 && ((t161 == bt189.2.2.2.2.1 && (t162 == bt189.2.2.2.2.2.1 && (t163 == bt189.2.2.2.2.2.2.1 && (t164 == bt189.2.2.2.2.2.2.2.1 && (t165 == bt189.2.2.2.2.2.2.2.2.1 && (t166 == bt189.2.2.2.2.2.2.2.2.2.1 && (t167 == bt189.2.2.2.2.2.2.2.2.2.2.1 && (t168 == bt189.2.2.2.2.2.2.2.2.2.2.2.1)))))))) && (t169.toList == bt189.2.2.2.2.2.2.2.2.2.2.2.2.toList)))))) = true then (if (t172.length : Int) = 3 then (if 2 < (t172.length : Int) then (if (rd t172 2) = 4 then ((entry_Majority.f 13).bind fun t203 => (some (t203 == 2))) else (some false)) else (none)) else (some false)) else (some false))) else (some false)) else (some false)) = some r := H
 have A6 := Aside0.mk A60
 clear A60
 by_cases c7 : t188.toList = ([3, 3, 1, 2, 49, 50, 51, 52, 53, 54, 55, 56, 2, 120, 121] : List UInt8)
 ·rw [if_pos c7] at H
  have c7b0 : (t188.toList == ([3, 3, 1, 2, 49, 50, 51, 52, 53, 54, 55, 56, 2, 120, 121] : List UInt8)) = true := beq_iff_eq.mpr c7
  have c7b1 : (t188.toList != ([3, 3, 1, 2, 49, 50, 51, 52, 53, 54, 55, 56, 2, 120, 121] : List UInt8)) = false := bne_eq_false_iff_eq.mpr c7
  clear c7
  by_cases c8 : t170 = true
  ·subst c8
   have H1 : ((wapentakelaw04_some.f).bind fun bt189 => (if (t157 == bt189.1 && (t158 == bt189.2.1 && (t159 == bt189.2.2.1 && (t160 == bt189.2.2.2.1 && ((t161 == bt189.2.2.2.2.1 && (t162 == bt189.2.2.2.2.2.1 && (t163 == bt189.2.2.2.2.2.2.1 && (t164 == bt189.2.2.2.2.2.2.2.1 && (t165 == bt189.2.2.2.2.2.2.2.2.1 && (t166 == bt189.2.2.2.2.2.2.2.2.2.1 && (t167 == bt189.2.2.2.2.2.2.2.2.2.2.1 && (t168 == bt189.2.2.2.2.2.2.2.2.2.2.2.1)))))))) && (t169.toList == bt189.2.2.2.2.2.2.2.2.2.2.2.2.toList)))))) = true then (if (t172.length : Int) = 3 then (if 2 < (t172.length : Int) then (if (rd t172 2) = 4 then ((entry_Majority.f 13).bind fun t203 => (some (t203 == 2))) else (some false)) else (none)) else (some false)) else (some false))) = some r := by rw [if_pos rfl] at H; exact H
   clear H
   have H := H1
   clear H1
   replace H := Option.bind_eq_some_iff.mp H
   obtain ⟨⟨t189, t190, t191, t192, t193, t194, t195, t196, t197, t198, t199, t200, t201⟩, A90, H⟩ := H
   replace H : (if (t157 == t189 && (t158 == t190 && (t159 == t191 && (t160 == t192 && ((t161 == t193 && (t162 == t194 && (t163 == t195 && (t164 == t196 && (t165 == t197 && (t166 == t198 && (t167 == t199 && (t168 == t200)))))))) && (t169.toList == t201.toList)))))) = true then (if (t172.length : Int) = 3 then (if 2 < (t172.length : Int) then (if (rd t172 2) = 4 then ((entry_Majority.f 13).bind fun t203 => (some (t203 == 2))) else (some false)) else (none)) else (some false)) else (some false)) = some r := H
   have A9 := Aside0.mk A90
   clear A90
   by_cases c10 : (t157 == t189 && (t158 == t190 && (t159 == t191 && (t160 == t192 && ((t161 == t193 && (t162 == t194 && (t163 == t195 && (t164 == t196 && (t165 == t197 && (t166 == t198 && (t167 == t199 && (t168 == t200)))))))) && (t169.toList == t201.toList)))))) = true
   ·rw [if_pos c10] at H
    have c10b0 : (t157 == t189 && (t158 == t190 && (t159 == t191 && (t160 == t192 && ((t161 == t193 && (t162 == t194 && (t163 == t195 && (t164 == t196 && (t165 == t197 && (t166 == t198 && (t167 == t199 && (t168 == t200)))))))) && (t169.toList == t201.toList)))))) = true := c10
    (try (have c10b1 : decide (t157 = t189 && (t158 == t190 && (t159 == t191 && (t160 == t192 && ((t161 == t193 && (t162 == t194 && (t163 == t195 && (t164 == t196 && (t165 == t197 && (t166 == t198 && (t167 == t199 && (t168 == t200)))))))) && (t169.toList == t201.toList)))))) = true := by simpa using c10))
    (try (have c10b2 : (t157 == t189 && (t158 == t190 && (t159 == t191 && (t160 == t192 && ((t161 == t193 && (t162 == t194 && (t163 == t195 && (t164 == t196 && (t165 == t197 && (t166 == t198 && (t167 == t199 && (t168 == t200)))))))) && (t169.toList == t201.toList)))))) = true := by simpa using c10))
    clear c10
    by_cases c11 : (t172.length : Int) = 3
    ·rw [if_pos c11] at H
     have c11b0 : ((t172.length : Int) == 3) = true := beq_iff_eq.mpr c11
     have c11b1 : ((t172.length : Int) != 3) = false := bne_eq_false_iff_eq.mpr c11
     clear c11
     by_cases c12 : 2 < (t172.length : Int)
     ·rw [if_pos c12] at H
      have c12b0 : decide (2 < (t172.length : Int)) = true := decide_eq_true c12
      have c12b1 : decide (2 < t172.length) = true := decide_eq_true (by omega)
      clear c12
      by_cases c13 : (rd t172 2) = 4
      ·rw [if_pos c13] at H
       have c13b0 : ((rd t172 2) == 4) = true := beq_iff_eq.mpr c13
       have c13b1 : ((rd t172 2) != 4) = false := bne_eq_false_iff_eq.mpr c13
       clear c13
       replace H := Option.bind_eq_some_iff.mp H
       obtain ⟨t203, A140, H⟩ := H
       replace H : (some (t203 == 2)) = some r := H
       have A14 := Aside0.mk A140
       clear A140
       obtain rfl := Option.some.inj H
       go_enter Try.func14, Try.ntmps14
       try go_wp2_with (first | ((with_reducible refine gate_callee (f := 25) rfl ?_); refine goesL_ (some 5) rfl rfl Try.func25 (by kernel_rfl) rfl #[] rfl (by (try simp only [List.map_toArray, List.map_cons, List.map_nil]); first | done | rfl | (simp only [List.length_drop, List.length_take]; rfl)) ?_; (with_reducible refine (wapentakelaw04_some.calls  t143 t144 t145 t146 t147 t148 t149 t150 t151 t152 t153 t154 t155 _ A1.out).mono ?_); rintro e w15 ⟨rfl, hb⟩; refine ⟨_, rfl, ?_⟩; have n0_ := Aside0.mk (below_step (by repeat (first | (with_reducible first | exact HB.out | apply below_alloc | apply pw_below_drewN | apply below_drew1) | exact HB.out)) hb); clear HB; have HB := n0_; clear n0_; (try clear hb); (try clear hb2); (try clear hk); (try clear hi)) | ((with_reducible refine gate_callee (f := 9) rfl ?_); refine goesL_ (some 6) rfl rfl Try.func9 (by kernel_rfl) rfl #[.agg #[.int .u64 t143, .int .u64 t144, .int .u8 t145, .int .u8 t146, .int .u8 t147, .int .u8 t148, .int .u8 t149, .int .u8 t150, .int .u8 t151, .int .u8 t152, .int .u8 t153, .int .u8 t154, .string t155]] rfl (by (try simp only [List.map_toArray, List.map_cons, List.map_nil]); first | done | rfl | (simp only [List.length_drop, List.length_take]; rfl)) ?_; (with_reducible refine (entry_Write.calls k t143 t144 t145 t146 t147 t148 t149 t150 t151 t152 t153 t154 t155 t156 _ A2.out).mono ?_); rintro e w16 ⟨rfl, hb⟩; refine ⟨_, rfl, ?_⟩; have n0_ := Aside0.mk (below_step (by repeat (first | (with_reducible first | exact HB.out | apply below_alloc | apply pw_below_drewN | apply below_drew1) | exact HB.out)) hb); clear HB; have HB := n0_; clear n0_; (try clear hb); (try clear hb2); (try clear hk); (try clear hi)) | ((with_reducible refine gate_callee (f := 11) rfl ?_); refine goesL_ (some 7) rfl rfl Try.func11 (by kernel_rfl) rfl #[.string t156] rfl (by (try simp only [List.map_toArray, List.map_cons, List.map_nil]); first | done | rfl | (simp only [List.length_drop, List.length_take]; rfl)) ?_; (with_reducible refine (entry_Read.calls k t156 t157 t158 t159 t160 t161 t162 t163 t164 t165 t166 t167 t168 t169 true _ A3.out).mono ?_); rintro e w17 ⟨rfl, hb⟩; refine ⟨_, rfl, ?_⟩; have n0_ := Aside0.mk (below_step (by repeat (first | (with_reducible first | exact HB.out | apply below_alloc | apply pw_below_drewN | apply below_drew1) | exact HB.out)) hb); clear HB; have HB := n0_; clear n0_; (try clear hb); (try clear hb2); (try clear hk); (try clear hi)) | ((with_reducible refine gate_dst (N := 1) rfl ?_); (try (refine gate_guard (by rfl) ?_; dsimp only)); refine box_event ?hg (N := 1) ?hd (cs := #[.int .u64 0, .int .u64 0, .int .u8 0, .int .u8 0, .int .u8 0, .int .u8 0, .int .u8 0, .int .u8 0, .int .u8 0, .int .u8 0, .int .u8 0, .int .u8 0, .string (⟨#[]⟩ : ByteArray)]) (t := 27) ?hr ?_; (case hd => rfl); (case hg => rfl); (case hr => first | (go_simp; done) | (go_simp; rfl)); intro gb171 hg w18 hbox hb; have n0_ := Aside0.mk (below_step (by repeat (first | (with_reducible first | exact HB.out | apply below_alloc | apply pw_below_drewN | apply below_drew1) | exact HB.out)) hb); have n1_ := Aside0.mk (hbox); have n2_ := Aside0.mk ((by rw [hg]; exact (below_size (by repeat (first | (with_reducible first | exact HB.out | apply below_alloc | apply pw_below_drewN | apply below_drew1) | exact HB.out))) : w.heap.size ≤ gb171)); have n3_ := Aside0.mk ((by rw [hg]; exact (below_size (by repeat (first | (with_reducible first | exact HB.out | apply below_alloc | apply pw_below_drewN | apply below_drew1) | exact HB.out))) : w.heap.size ≤ gb171)); clear HB; have HB := n0_; have BK171 := n1_; have GW171 := n2_; have GE171 := n3_; clear n0_ n1_ n2_ n3_; clear hb hbox hg; have hcz19_0 : w18.cell? ⟨gb171, 0, none⟩ = some (.int .u64 0) := (blk_cell BK171.out 0).trans rfl; have hcz19_1 : w18.cell? ⟨gb171, 1, none⟩ = some (.int .u64 0) := (blk_cell BK171.out 1).trans rfl; have hcz19_2 : w18.cell? ⟨gb171, 2, none⟩ = some (.int .u8 0) := (blk_cell BK171.out 2).trans rfl; have hcz19_3 : w18.cell? ⟨gb171, 3, none⟩ = some (.int .u8 0) := (blk_cell BK171.out 3).trans rfl; have hcz19_4 : w18.cell? ⟨gb171, 4, none⟩ = some (.int .u8 0) := (blk_cell BK171.out 4).trans rfl; have hcz19_5 : w18.cell? ⟨gb171, 5, none⟩ = some (.int .u8 0) := (blk_cell BK171.out 5).trans rfl; have hcz19_6 : w18.cell? ⟨gb171, 6, none⟩ = some (.int .u8 0) := (blk_cell BK171.out 6).trans rfl; have hcz19_7 : w18.cell? ⟨gb171, 7, none⟩ = some (.int .u8 0) := (blk_cell BK171.out 7).trans rfl; have hcz19_8 : w18.cell? ⟨gb171, 8, none⟩ = some (.int .u8 0) := (blk_cell BK171.out 8).trans rfl; have hcz19_9 : w18.cell? ⟨gb171, 9, none⟩ = some (.int .u8 0) := (blk_cell BK171.out 9).trans rfl; have hcz19_10 : w18.cell? ⟨gb171, 10, none⟩ = some (.int .u8 0) := (blk_cell BK171.out 10).trans rfl; have hcz19_11 : w18.cell? ⟨gb171, 11, none⟩ = some (.int .u8 0) := (blk_cell BK171.out 11).trans rfl; have hcz19_12 : w18.cell? ⟨gb171, 12, none⟩ = some (.string (⟨#[]⟩ : ByteArray)) := (blk_cell BK171.out 12).trans rfl; have hfz19_0 := blk_frozen BK171.out 0; have hfz19_1 := blk_frozen BK171.out 1; have hfz19_2 := blk_frozen BK171.out 2; have hfz19_3 := blk_frozen BK171.out 3; have hfz19_4 := blk_frozen BK171.out 4; have hfz19_5 := blk_frozen BK171.out 5; have hfz19_6 := blk_frozen BK171.out 6; have hfz19_7 := blk_frozen BK171.out 7; have hfz19_8 := blk_frozen BK171.out 8; have hfz19_9 := blk_frozen BK171.out 9; have hfz19_10 := blk_frozen BK171.out 10; have hfz19_11 := blk_frozen BK171.out 11; have hfz19_12 := blk_frozen BK171.out 12) | ((with_reducible refine gate_callee (f := 13) rfl ?_); refine goesL_ (some 10) rfl rfl Try.func13 (by kernel_rfl) rfl #[.int .u8 13] rfl (by (try simp only [List.map_toArray, List.map_cons, List.map_nil]); first | done | rfl | (simp only [List.length_drop, List.length_take]; rfl)) ?_; (with_reducible refine (entry_Members.calls k 13 t172 _ A4.out).mono ?_); rintro e w20 ⟨v173, rfl, ho0, hb⟩; refine ⟨_, rfl, ?_⟩; have n0_ := Aside0.mk (Kd.R_lower ho0 (below_size (by repeat (first | (with_reducible first | exact HB.out | apply below_alloc | apply pw_below_drewN | apply below_drew1 | refine below_set ?_ GE171.out) | exact HB.out)))); have n1_ := Aside0.mk (blk_below (g := gb171) (o := .cells #[.int .u64 t157, .int .u64 t158, .int .u8 t159, .int .u8 t160, .int .u8 t161, .int .u8 t162, .int .u8 t163, .int .u8 t164, .int .u8 t165, .int .u8 t166, .int .u8 t167, .int .u8 t168, .string t169] 27 (0, 0)) (by (with_reducible repeat (first | refine blk_drewN ?_ _ | refine blk_drew ?_ | refine blk_alloc ?_ _)); refine blk_put (cs := #[.int .u64 t157, .int .u64 t158, .int .u8 t159, .int .u8 t160, .int .u8 t161, .int .u8 t162, .int .u8 t163, .int .u8 t164, .int .u8 t165, .int .u8 t166, .int .u8 t167, .int .u8 t168, .string (⟨#[]⟩ : ByteArray)]) ?_ 12 _ rfl; (with_reducible repeat (first | refine blk_drewN ?_ _ | refine blk_drew ?_ | refine blk_alloc ?_ _)); refine blk_put (cs := #[.int .u64 t157, .int .u64 t158, .int .u8 t159, .int .u8 t160, .int .u8 t161, .int .u8 t162, .int .u8 t163, .int .u8 t164, .int .u8 t165, .int .u8 t166, .int .u8 t167, .int .u8 0, .string (⟨#[]⟩ : ByteArray)]) ?_ 11 _ rfl; (with_reducible repeat (first | refine blk_drewN ?_ _ | refine blk_drew ?_ | refine blk_alloc ?_ _)); refine blk_put (cs := #[.int .u64 t157, .int .u64 t158, .int .u8 t159, .int .u8 t160, .int .u8 t161, .int .u8 t162, .int .u8 t163, .int .u8 t164, .int .u8 t165, .int .u8 t166, .int .u8 0, .int .u8 0, .string (⟨#[]⟩ : ByteArray)]) ?_ 10 _ rfl; (with_reducible repeat (first | refine blk_drewN ?_ _ | refine blk_drew ?_ | refine blk_alloc ?_ _)); refine blk_put (cs := #[.int .u64 t157, .int .u64 t158, .int .u8 t159, .int .u8 t160, .int .u8 t161, .int .u8 t162, .int .u8 t163, .int .u8 t164, .int .u8 t165, .int .u8 0, .int .u8 0, .int .u8 0, .string (⟨#[]⟩ : ByteArray)]) ?_ 9 _ rfl; (with_reducible repeat (first | refine blk_drewN ?_ _ | refine blk_drew ?_ | refine blk_alloc ?_ _)); refine blk_put (cs := #[.int .u64 t157, .int .u64 t158, .int .u8 t159, .int .u8 t160, .int .u8 t161, .int .u8 t162, .int .u8 t163, .int .u8 t164, .int .u8 0, .int .u8 0, .int .u8 0, .int .u8 0, .string (⟨#[]⟩ : ByteArray)]) ?_ 8 _ rfl; (with_reducible repeat (first | refine blk_drewN ?_ _ | refine blk_drew ?_ | refine blk_alloc ?_ _)); refine blk_put (cs := #[.int .u64 t157, .int .u64 t158, .int .u8 t159, .int .u8 t160, .int .u8 t161, .int .u8 t162, .int .u8 t163, .int .u8 0, .int .u8 0, .int .u8 0, .int .u8 0, .int .u8 0, .string (⟨#[]⟩ : ByteArray)]) ?_ 7 _ rfl; (with_reducible repeat (first | refine blk_drewN ?_ _ | refine blk_drew ?_ | refine blk_alloc ?_ _)); refine blk_put (cs := #[.int .u64 t157, .int .u64 t158, .int .u8 t159, .int .u8 t160, .int .u8 t161, .int .u8 t162, .int .u8 0, .int .u8 0, .int .u8 0, .int .u8 0, .int .u8 0, .int .u8 0, .string (⟨#[]⟩ : ByteArray)]) ?_ 6 _ rfl; (with_reducible repeat (first | refine blk_drewN ?_ _ | refine blk_drew ?_ | refine blk_alloc ?_ _)); refine blk_put (cs := #[.int .u64 t157, .int .u64 t158, .int .u8 t159, .int .u8 t160, .int .u8 t161, .int .u8 0, .int .u8 0, .int .u8 0, .int .u8 0, .int .u8 0, .int .u8 0, .int .u8 0, .string (⟨#[]⟩ : ByteArray)]) ?_ 5 _ rfl; (with_reducible repeat (first | refine blk_drewN ?_ _ | refine blk_drew ?_ | refine blk_alloc ?_ _)); refine blk_put (cs := #[.int .u64 t157, .int .u64 t158, .int .u8 t159, .int .u8 t160, .int .u8 0, .int .u8 0, .int .u8 0, .int .u8 0, .int .u8 0, .int .u8 0, .int .u8 0, .int .u8 0, .string (⟨#[]⟩ : ByteArray)]) ?_ 4 _ rfl; (with_reducible repeat (first | refine blk_drewN ?_ _ | refine blk_drew ?_ | refine blk_alloc ?_ _)); refine blk_put (cs := #[.int .u64 t157, .int .u64 t158, .int .u8 t159, .int .u8 0, .int .u8 0, .int .u8 0, .int .u8 0, .int .u8 0, .int .u8 0, .int .u8 0, .int .u8 0, .int .u8 0, .string (⟨#[]⟩ : ByteArray)]) ?_ 3 _ rfl; (with_reducible repeat (first | refine blk_drewN ?_ _ | refine blk_drew ?_ | refine blk_alloc ?_ _)); refine blk_put (cs := #[.int .u64 t157, .int .u64 t158, .int .u8 0, .int .u8 0, .int .u8 0, .int .u8 0, .int .u8 0, .int .u8 0, .int .u8 0, .int .u8 0, .int .u8 0, .int .u8 0, .string (⟨#[]⟩ : ByteArray)]) ?_ 2 _ rfl; (with_reducible repeat (first | refine blk_drewN ?_ _ | refine blk_drew ?_ | refine blk_alloc ?_ _)); refine blk_put (cs := #[.int .u64 t157, .int .u64 0, .int .u8 0, .int .u8 0, .int .u8 0, .int .u8 0, .int .u8 0, .int .u8 0, .int .u8 0, .int .u8 0, .int .u8 0, .int .u8 0, .string (⟨#[]⟩ : ByteArray)]) ?_ 1 _ rfl; (with_reducible repeat (first | refine blk_drewN ?_ _ | refine blk_drew ?_ | refine blk_alloc ?_ _)); refine blk_put (cs := #[.int .u64 0, .int .u64 0, .int .u8 0, .int .u8 0, .int .u8 0, .int .u8 0, .int .u8 0, .int .u8 0, .int .u8 0, .int .u8 0, .int .u8 0, .int .u8 0, .string (⟨#[]⟩ : ByteArray)]) ?_ 0 _ rfl; (with_reducible repeat (first | refine blk_drewN ?_ _ | refine blk_drew ?_ | refine blk_alloc ?_ _)); exact BK171.out) hb); have n2_ := Aside0.mk (below_step (by repeat (first | (with_reducible first | exact HB.out | apply below_alloc | apply pw_below_drewN | apply below_drew1 | refine below_set ?_ GE171.out) | exact HB.out)) hb); clear BK171; clear HB; have HO174 := n0_; have BK171 := n1_; have HB := n2_; clear n0_ n1_ n2_; (try clear hb); (try clear hb2); (try clear hk); (try clear hi); (try clear ho0)))
       have n0_ := Aside0.mk (Kd.R_drew HO174.out)
       have n1_ := Aside0.mk (blk_drew BK171.out)
       have n2_ := Aside0.mk (below_drew1 HB.out)
       clear HO174
       clear BK171
       clear HB
       have HO174 := n0_
       have BK171 := n1_
       have HB := n2_
       clear n0_ n1_ n2_
       obtain ⟨Ao25, co25, eo25⟩ := Kd.R_slice HO174.out
       (first | subst eo25 | (injection eo25 with f1_ f2_ f3_; have f4_ := f1_.symm; have f5_ := f3_.symm; clear f1_ f2_ f3_; subst f4_; subst f5_))
       have p202 : 0 ≤ (2 : Int) := (by omega)
       have q202 : 2 < (t172.length : Int) := of_decide_eq_true (by first | (with_reducible assumption) | assumption)
       obtain ⟨ad202, e202, hx202_0⟩ := Kd.at_int (Kd.R_reads' HO174.out).2.2 2 p202 q202
       cases e202
       (try simp only [show (2 : Int).toNat = 2 from rfl, Nat.reduceMul, Nat.reduceEqDiff, Go.Addr.add, ↓reduceIte] at hx202_0)
       have qi202 : (2 < t172.length) = True := eq_true (by omega)
       (try rw [show ((2 : Int)).toNat = 2 from rfl] at hx202_0)
       replace p202 := eq_true p202
       replace q202 := eq_true q202
       refine start_ (n := 27) (S := fun w' => w'.cell? ⟨gb171, 0, none⟩ = some (.int .u64 t157) ∧ w'.cell? ⟨gb171, 1, none⟩ = some (.int .u64 t158) ∧ w'.cell? ⟨gb171, 2, none⟩ = some (.int .u8 t159) ∧ w'.cell? ⟨gb171, 3, none⟩ = some (.int .u8 t160) ∧ w'.cell? ⟨gb171, 4, none⟩ = some (.int .u8 t161) ∧ w'.cell? ⟨gb171, 5, none⟩ = some (.int .u8 t162) ∧ w'.cell? ⟨gb171, 6, none⟩ = some (.int .u8 t163) ∧ w'.cell? ⟨gb171, 7, none⟩ = some (.int .u8 t164) ∧ w'.cell? ⟨gb171, 8, none⟩ = some (.int .u8 t165) ∧ w'.cell? ⟨gb171, 9, none⟩ = some (.int .u8 t166) ∧ w'.cell? ⟨gb171, 10, none⟩ = some (.int .u8 t167) ∧ w'.cell? ⟨gb171, 11, none⟩ = some (.int .u8 t168) ∧ w'.cell? ⟨gb171, 12, none⟩ = some (.string t169) ∧ w'.cell? ⟨ad202.block, ad202.off + 2, none⟩ = some (.int .u8 (rd t172 2))) (ds := []) #[false, false, false, false, false, false, false, false, false, false, false, false, false, false, false, false, false, false, false, false, false, false, false, false, false, false, false] (by kernel_rfl) rfl rfl ⟨(blk_cell BK171.out 0).trans rfl, (blk_cell BK171.out 1).trans rfl, (blk_cell BK171.out 2).trans rfl, (blk_cell BK171.out 3).trans rfl, (blk_cell BK171.out 4).trans rfl, (blk_cell BK171.out 5).trans rfl, (blk_cell BK171.out 6).trans rfl, (blk_cell BK171.out 7).trans rfl, (blk_cell BK171.out 8).trans rfl, (blk_cell BK171.out 9).trans rfl, (blk_cell BK171.out 10).trans rfl, (blk_cell BK171.out 11).trans rfl, (blk_cell BK171.out 12).trans rfl, hx202_0⟩ (fun hHeld => ?_); refine with_tabW wapentakelaw04_awake.tab3 wapentakelaw04_awake.bits3 (fun HT_ HW_ => ?_)
       generalize w20.drew = w21 at HO174 BK171 HB hx202_0 hHeld ⊢
       refine one_ (i := 0) (N := some 11) (bq_10_ 27 1) rfl rfl (one_of HT_.out (by kernel_rfl)) (by decide) (fun K hK => ?_)
       refine goes_ Try.func25 (by kernel_rfl) rfl #[] (by rfl) rfl rfl (by (try simp only [List.map_toArray, List.map_cons, List.map_nil]); first | done | rfl | (simp only [List.length_drop, List.length_take]; rfl)) ?_
       with_reducible refine (wapentakelaw04_some.calls  t175 t176 t177 t178 t179 t180 t181 t182 t183 t184 t185 t186 t187 _ A5.out).mono ?_
       rintro e w22 ⟨rfl, hb⟩
       have HS13_ := (hb.cell (World.block_lt_of_cell? _ _ (hHeld.2.2.2.2.2.2.2.2.2.2.2.2.2))).trans (hHeld.2.2.2.2.2.2.2.2.2.2.2.2.2)
       refine ⟨_, rfl, ?_⟩
       have n0_ := Aside0.mk (Kd.R_below (by (with_reducible repeat (first | apply Kd.R_alloc | apply Kd.R_drewN | apply Kd.R_drew)); exact HO174.out) hb)
       have n1_ := Aside0.mk (blk_below (g := gb171) (o := .cells #[.int .u64 t157, .int .u64 t158, .int .u8 t159, .int .u8 t160, .int .u8 t161, .int .u8 t162, .int .u8 t163, .int .u8 t164, .int .u8 t165, .int .u8 t166, .int .u8 t167, .int .u8 t168, .string t169] 27 (0, 0)) (by (with_reducible repeat (first | refine blk_drewN ?_ _ | refine blk_drew ?_ | refine blk_alloc ?_ _)); exact BK171.out) hb)
       have n2_ := Aside0.mk (below_step (by repeat (first | (with_reducible first | exact HB.out | apply below_alloc | apply pw_below_drewN | apply below_drew1 | refine below_set ?_ GE171.out) | exact HB.out)) hb)
       clear HO174
       clear BK171
       clear HB
       have HO174 := n0_
       have BK171 := n1_
       have HB := n2_
       clear n0_ n1_ n2_
       (try clear hb)
       (try clear hb2)
       (try clear hk)
       (try clear hi)
       refine hK.out _ _ ⟨(blk_cell BK171.out 0).trans rfl, (blk_cell BK171.out 1).trans rfl, (blk_cell BK171.out 2).trans rfl, (blk_cell BK171.out 3).trans rfl, (blk_cell BK171.out 4).trans rfl, (blk_cell BK171.out 5).trans rfl, (blk_cell BK171.out 6).trans rfl, (blk_cell BK171.out 7).trans rfl, (blk_cell BK171.out 8).trans rfl, (blk_cell BK171.out 9).trans rfl, (blk_cell BK171.out 10).trans rfl, (blk_cell BK171.out 11).trans rfl, (blk_cell BK171.out 12).trans rfl, HS13_⟩ (fun hHeld => ?_)
       clear hK K
       refine norm_ (a' := ?_) ?_ ?_
       rotate_left
       ·show Act.put _ (some 11) _ = _
        simp only [Act.put, zA10_, zB10_, zC10_, i64_w, i32_w]
        rfl
       refine one_ (i := 1) (N := some 12) (bq_10_ 27 3) rfl rfl (one_of HT_.out (by kernel_rfl)) (by decide) (fun K hK => ?_)
       refine goes_ Try.func9 (by kernel_rfl) rfl #[.agg #[.int .u64 t175, .int .u64 t176, .int .u8 t177, .int .u8 t178, .int .u8 t179, .int .u8 t180, .int .u8 t181, .int .u8 t182, .int .u8 t183, .int .u8 t184, .int .u8 t185, .int .u8 t186, .string t187]] (by rfl) rfl rfl (by (try simp only [List.map_toArray, List.map_cons, List.map_nil]); first | done | rfl | (simp only [List.length_drop, List.length_take]; rfl)) ?_
       with_reducible refine (entry_Write.calls k t175 t176 t177 t178 t179 t180 t181 t182 t183 t184 t185 t186 t187 t188 _ A6.out).mono ?_
       rintro e w23 ⟨rfl, hb⟩
       have HS13_ := (hb.cell (World.block_lt_of_cell? _ _ (hHeld.2.2.2.2.2.2.2.2.2.2.2.2.2))).trans (hHeld.2.2.2.2.2.2.2.2.2.2.2.2.2)
       refine ⟨_, rfl, ?_⟩
       have n0_ := Aside0.mk (Kd.R_below (by (with_reducible repeat (first | apply Kd.R_alloc | apply Kd.R_drewN | apply Kd.R_drew)); exact HO174.out) hb)
       have n1_ := Aside0.mk (blk_below (g := gb171) (o := .cells #[.int .u64 t157, .int .u64 t158, .int .u8 t159, .int .u8 t160, .int .u8 t161, .int .u8 t162, .int .u8 t163, .int .u8 t164, .int .u8 t165, .int .u8 t166, .int .u8 t167, .int .u8 t168, .string t169] 27 (0, 0)) (by (with_reducible repeat (first | refine blk_drewN ?_ _ | refine blk_drew ?_ | refine blk_alloc ?_ _)); exact BK171.out) hb)
       have n2_ := Aside0.mk (below_step (by repeat (first | (with_reducible first | exact HB.out | apply below_alloc | apply pw_below_drewN | apply below_drew1 | refine below_set ?_ GE171.out) | exact HB.out)) hb)
       clear HO174
       clear BK171
       clear HB
       have HO174 := n0_
       have BK171 := n1_
       have HB := n2_
       clear n0_ n1_ n2_
       (try clear hb)
       (try clear hb2)
       (try clear hk)
       (try clear hi)
       refine hK.out _ _ ⟨(blk_cell BK171.out 0).trans rfl, (blk_cell BK171.out 1).trans rfl, (blk_cell BK171.out 2).trans rfl, (blk_cell BK171.out 3).trans rfl, (blk_cell BK171.out 4).trans rfl, (blk_cell BK171.out 5).trans rfl, (blk_cell BK171.out 6).trans rfl, (blk_cell BK171.out 7).trans rfl, (blk_cell BK171.out 8).trans rfl, (blk_cell BK171.out 9).trans rfl, (blk_cell BK171.out 10).trans rfl, (blk_cell BK171.out 11).trans rfl, (blk_cell BK171.out 12).trans rfl, HS13_⟩ (fun hHeld => ?_)
       clear hK K
       refine norm_ (a' := ?_) ?_ ?_
       rotate_left
       ·show Act.put _ (some 12) _ = _
        simp only [Act.put, zA10_, zB10_, zC10_, i64_w, i32_w]
        rfl
       refine pure_ (i := 2) (N := some 13) (v := ?_) (a' := ?_) (bq_10_ 27 7) rfl rfl (any_of HT_.out (by kernel_rfl)) (fun _ _ _ h => h) (Or.inl ⟨by rfl, ?_⟩) ?_ ?_
       rotate_left
       ·intro w'
        go_simp
        with_reducible rfl
       rotate_left
       ·simp only [Act.put, zA10_, zB10_, zC10_, i64_w, i32_w]
        rfl
       refine pure_ (i := 3) (N := some 14) (v := ?_) (a' := ?_) (bq_10_ 27 15) rfl rfl (any_of HT_.out (by kernel_rfl)) (fun _ _ _ h => h) (Or.inl ⟨by rfl, ?_⟩) ?_ ?_
       rotate_left
       ·intro w'
        go_simp
        with_reducible rfl
       rotate_left
       ·simp only [Act.put, zA10_, zB10_, zC10_, i64_w, i32_w]
        rfl
       refine pure_ (i := 4) (N := some 15) (v := ?_) (a' := ?_) (bq_10_ 27 31) rfl rfl (any_of HT_.out (by kernel_rfl)) (fun _ _ _ h => h) (Or.inl ⟨by rfl, ?_⟩) ?_ ?_
       rotate_left
       ·intro w'
        go_simp
        with_reducible rfl
       rotate_left
       ·simp only [Act.put, zA10_, zB10_, zC10_, i64_w, i32_w]
        rfl
       refine pure_ (i := 5) (N := some 16) (v := ?_) (a' := ?_) (bq_10_ 27 63) rfl rfl (any_of HT_.out (by kernel_rfl)) (fun _ _ _ h => h) (Or.inl ⟨by rfl, ?_⟩) ?_ ?_
       rotate_left
       ·intro w'
        go_simp
        with_reducible rfl
       rotate_left
       ·simp only [Act.put, zA10_, zB10_, zC10_, i64_w, i32_w]
        rfl
       refine pure_ (i := 6) (N := some 17) (v := ?_) (a' := ?_) (bq_10_ 27 127) rfl rfl (any_of HT_.out (by kernel_rfl)) (fun _ _ _ h => h) (Or.inl ⟨by rfl, ?_⟩) ?_ ?_
       rotate_left
       ·intro w'
        go_simp
        with_reducible rfl
       rotate_left
       ·simp only [Act.put, zA10_, zB10_, zC10_, i64_w, i32_w]
        rfl
       refine take_ (i := 7) (N := some 18) (v := ?_) (a' := ?_) (bq_10_ 27 255) rfl rfl (take_ofW HT_.out HW_.out (by kernel_rfl)) (fun _ _ _ h => h) (Or.inl ⟨by rfl, ?_⟩) hHeld ?_ ?_
       rotate_left
       ·rintro w' ⟨s0, s1, s2, s3, s4, s5, s6, s7, s8, s9, s10, s11, s12, s13⟩
        go_simp
        with_reducible rfl
       rotate_left
       ·simp only [Act.put, zA10_, zB10_, zC10_, i64_w, i32_w]
        rfl
       refine one_ (i := 8) (N := some 19) (bq_10_ 27 511) rfl rfl (one_of HT_.out (by kernel_rfl)) (by decide) (fun K hK => ?_)
       refine goes_ Try.func25 (by kernel_rfl) rfl #[] (by rfl) rfl rfl (by (try simp only [List.map_toArray, List.map_cons, List.map_nil]); first | done | rfl | (simp only [List.length_drop, List.length_take]; rfl)) ?_
       with_reducible refine (wapentakelaw04_some.calls  t189 t190 t191 t192 t193 t194 t195 t196 t197 t198 t199 t200 t201 _ A9.out).mono ?_
       rintro e w24 ⟨rfl, hb⟩
       have HS13_ := (hb.cell (World.block_lt_of_cell? _ _ (hHeld.2.2.2.2.2.2.2.2.2.2.2.2.2))).trans (hHeld.2.2.2.2.2.2.2.2.2.2.2.2.2)
       refine ⟨_, rfl, ?_⟩
       have n0_ := Aside0.mk (Kd.R_below (by (with_reducible repeat (first | apply Kd.R_alloc | apply Kd.R_drewN | apply Kd.R_drew)); exact HO174.out) hb)
       have n1_ := Aside0.mk (blk_below (g := gb171) (o := .cells #[.int .u64 t157, .int .u64 t158, .int .u8 t159, .int .u8 t160, .int .u8 t161, .int .u8 t162, .int .u8 t163, .int .u8 t164, .int .u8 t165, .int .u8 t166, .int .u8 t167, .int .u8 t168, .string t169] 27 (0, 0)) (by (with_reducible repeat (first | refine blk_drewN ?_ _ | refine blk_drew ?_ | refine blk_alloc ?_ _)); exact BK171.out) hb)
       have n2_ := Aside0.mk (below_step (by repeat (first | (with_reducible first | exact HB.out | apply below_alloc | apply pw_below_drewN | apply below_drew1 | refine below_set ?_ GE171.out) | exact HB.out)) hb)
       clear HO174
       clear BK171
       clear HB
       have HO174 := n0_
       have BK171 := n1_
       have HB := n2_
       clear n0_ n1_ n2_
       (try clear hb)
       (try clear hb2)
       (try clear hk)
       (try clear hi)
       refine hK.out _ _ ⟨(blk_cell BK171.out 0).trans rfl, (blk_cell BK171.out 1).trans rfl, (blk_cell BK171.out 2).trans rfl, (blk_cell BK171.out 3).trans rfl, (blk_cell BK171.out 4).trans rfl, (blk_cell BK171.out 5).trans rfl, (blk_cell BK171.out 6).trans rfl, (blk_cell BK171.out 7).trans rfl, (blk_cell BK171.out 8).trans rfl, (blk_cell BK171.out 9).trans rfl, (blk_cell BK171.out 10).trans rfl, (blk_cell BK171.out 11).trans rfl, (blk_cell BK171.out 12).trans rfl, HS13_⟩ (fun hHeld => ?_)
       clear hK K
       refine norm_ (a' := ?_) ?_ ?_
       rotate_left
       ·show Act.put _ (some 19) _ = _
        simp only [Act.put, zA10_, zB10_, zC10_, i64_w, i32_w]
        rfl
       refine pure_ (i := 9) (N := some 20) (v := ?_) (a' := ?_) (bq_10_ 27 1023) rfl rfl (any_of HT_.out (by kernel_rfl)) (fun _ _ _ h => h) (Or.inl ⟨by rfl, ?_⟩) ?_ ?_
       rotate_left
       ·intro w'
        go_simp
        with_reducible rfl
       rotate_left
       ·simp only [Act.put, zA10_, zB10_, zC10_, i64_w, i32_w]
        rfl
       refine pure_ (i := 10) (N := some 21) (v := ?_) (a' := ?_) (bq_10_ 27 2047) rfl rfl (any_of HT_.out (by kernel_rfl)) (fun _ _ _ h => h) (Or.inl ⟨by rfl, ?_⟩) ?_ ?_
       rotate_left
       ·intro w'
        go_simp
        with_reducible rfl
       rotate_left
       ·simp only [Act.put, zA10_, zB10_, zC10_, i64_w, i32_w]
        rfl
       refine pure_ (i := 11) (N := some 22) (v := ?_) (a' := ?_) (bq_10_ 27 4095) rfl rfl (any_of HT_.out (by kernel_rfl)) (fun _ _ _ h => h) (Or.inl ⟨by rfl, ?_⟩) ?_ ?_
       rotate_left
       ·intro w'
        go_simp
        with_reducible rfl
       rotate_left
       ·simp only [Act.put, zA10_, zB10_, zC10_, i64_w, i32_w]
        rfl
       refine pure_ (i := 12) (N := some 23) (v := ?_) (a' := ?_) (bq_10_ 27 8191) rfl rfl (any_of HT_.out (by kernel_rfl)) (fun _ _ _ h => h) (Or.inl ⟨by rfl, ?_⟩) ?_ ?_
       rotate_left
       ·intro w'
        go_simp
        with_reducible rfl
       rotate_left
       ·simp only [Act.put, zA10_, zB10_, zC10_, i64_w, i32_w]
        rfl
       refine pure_ (i := 13) (N := some 24) (v := ?_) (a' := ?_) (bq_10_ 27 16383) rfl rfl (any_of HT_.out (by kernel_rfl)) (fun _ _ _ h => h) (Or.inl ⟨by rfl, ?_⟩) ?_ ?_
       rotate_left
       ·intro w'
        go_simp
        with_reducible rfl
       rotate_left
       ·simp only [Act.put, zA10_, zB10_, zC10_, i64_w, i32_w]
        rfl
       refine pure_ (i := 14) (N := some 25) (v := ?_) (a' := ?_) (bq_10_ 27 32767) rfl rfl (any_of HT_.out (by kernel_rfl)) (fun _ _ _ h => h) (Or.inl ⟨by rfl, ?_⟩) ?_ ?_
       rotate_left
       ·intro w'
        go_simp
        with_reducible rfl
       rotate_left
       ·simp only [Act.put, zA10_, zB10_, zC10_, i64_w, i32_w]
        rfl
       refine pure_ (i := 15) (N := some 26) (v := ?_) (a' := ?_) (bq_10_ 27 65535) rfl rfl (any_of HT_.out (by kernel_rfl)) (fun _ _ _ h => h) (Or.inl ⟨by rfl, ?_⟩) ?_ ?_
       rotate_left
       ·intro w'
        go_simp
        with_reducible rfl
       rotate_left
       ·simp only [Act.put, zA10_, zB10_, zC10_, i64_w, i32_w]
        rfl
       refine pure_ (i := 16) (N := some 27) (v := ?_) (a' := ?_) (bq_10_ 27 131071) rfl rfl (any_of HT_.out (by kernel_rfl)) (fun _ _ _ h => h) (Or.inl ⟨by rfl, ?_⟩) ?_ ?_
       rotate_left
       ·intro w'
        go_simp
        with_reducible rfl
       rotate_left
       ·simp only [Act.put, zA10_, zB10_, zC10_, i64_w, i32_w]
        rfl
       refine pure_ (i := 17) (N := some 28) (v := ?_) (a' := ?_) (bq_10_ 27 262143) rfl rfl (any_of HT_.out (by kernel_rfl)) (fun _ _ _ h => h) (Or.inl ⟨by rfl, ?_⟩) ?_ ?_
       rotate_left
       ·intro w'
        go_simp
        with_reducible rfl
       rotate_left
       ·simp only [Act.put, zA10_, zB10_, zC10_, i64_w, i32_w]
        rfl
       refine pure_ (i := 18) (N := some 29) (v := ?_) (a' := ?_) (bq_10_ 27 524287) rfl rfl (any_of HT_.out (by kernel_rfl)) (fun _ _ _ h => h) (Or.inl ⟨by rfl, ?_⟩) ?_ ?_
       rotate_left
       ·intro w'
        go_simp
        with_reducible rfl
       rotate_left
       ·simp only [Act.put, zA10_, zB10_, zC10_, i64_w, i32_w]
        rfl
       refine take_ (i := 19) (N := some 30) (v := ?_) (a' := ?_) (bq_10_ 27 1048575) rfl rfl (take_ofW HT_.out HW_.out (by kernel_rfl)) (fun _ _ _ h => h) (Or.inl ⟨by rfl, ?_⟩) hHeld ?_ ?_
       rotate_left
       ·rintro w' ⟨s0, s1, s2, s3, s4, s5, s6, s7, s8, s9, s10, s11, s12, s13⟩
        go_simp
        with_reducible rfl
       rotate_left
       ·simp only [Act.put, zA10_, zB10_, zC10_, i64_w, i32_w]
        rfl
       refine pure_ (i := 20) (N := some 31) (v := ?_) (a' := ?_) (bq_10_ 27 2097151) rfl rfl (any_of HT_.out (by kernel_rfl)) (fun _ _ _ h => h) (Or.inl ⟨by rfl, ?_⟩) ?_ ?_
       rotate_left
       ·intro w'
        go_simp
        with_reducible rfl
       rotate_left
       ·simp only [Act.put, zA10_, zB10_, zC10_, i64_w, i32_w]
        rfl
       refine pure_ (i := 21) (N := some 32) (v := ?_) (a' := ?_) (bq_10_ 27 4194303) rfl rfl (any_of HT_.out (by kernel_rfl)) (fun _ _ _ h => h) (Or.inl ⟨by rfl, ?_⟩) ?_ ?_
       rotate_left
       ·intro w'
        go_simp
        with_reducible rfl
       rotate_left
       ·simp only [Act.put, zA10_, zB10_, zC10_, i64_w, i32_w]
        rfl
       refine pure_ (i := 22) (N := some 33) (v := ?_) (a' := ?_) (bq_10_ 27 8388607) rfl rfl (any_of HT_.out (by kernel_rfl)) (fun _ _ _ h => h) (Or.inl ⟨by rfl, ?_⟩) ?_ ?_
       rotate_left
       ·intro w'
        go_simp
        with_reducible rfl
       rotate_left
       ·simp only [Act.put, zA10_, zB10_, zC10_, i64_w, i32_w]
        rfl
       refine one_ (i := 23) (N := some 34) (bq_10_ 27 16777215) rfl rfl (one_of HT_.out (by kernel_rfl)) (by decide) (fun K hK => ?_)
       refine goes_ Try.func12 (by kernel_rfl) rfl #[.int .u8 13] (by rfl) rfl rfl (by (try simp only [List.map_toArray, List.map_cons, List.map_nil]); first | done | rfl | (simp only [List.length_drop, List.length_take]; rfl)) ?_
       with_reducible refine (entry_Majority.calls 13 t203 _ A14.out).mono ?_
       rintro e w26 ⟨rfl, hb⟩
       have HS13_ := (hb.cell (World.block_lt_of_cell? _ _ (hHeld.2.2.2.2.2.2.2.2.2.2.2.2.2))).trans (hHeld.2.2.2.2.2.2.2.2.2.2.2.2.2)
       refine ⟨_, rfl, ?_⟩
       have n0_ := Aside0.mk (Kd.R_below (by (with_reducible repeat (first | apply Kd.R_alloc | apply Kd.R_drewN | apply Kd.R_drew)); exact HO174.out) hb)
       have n1_ := Aside0.mk (blk_below (g := gb171) (o := .cells #[.int .u64 t157, .int .u64 t158, .int .u8 t159, .int .u8 t160, .int .u8 t161, .int .u8 t162, .int .u8 t163, .int .u8 t164, .int .u8 t165, .int .u8 t166, .int .u8 t167, .int .u8 t168, .string t169] 27 (0, 0)) (by (with_reducible repeat (first | refine blk_drewN ?_ _ | refine blk_drew ?_ | refine blk_alloc ?_ _)); exact BK171.out) hb)
       have n2_ := Aside0.mk (below_step (by repeat (first | (with_reducible first | exact HB.out | apply below_alloc | apply pw_below_drewN | apply below_drew1 | refine below_set ?_ GE171.out) | exact HB.out)) hb)
       clear HO174
       clear BK171
       clear HB
       have HO174 := n0_
       have BK171 := n1_
       have HB := n2_
       clear n0_ n1_ n2_
       (try clear hb)
       (try clear hb2)
       (try clear hk)
       (try clear hi)
       refine hK.out _ _ ⟨(blk_cell BK171.out 0).trans rfl, (blk_cell BK171.out 1).trans rfl, (blk_cell BK171.out 2).trans rfl, (blk_cell BK171.out 3).trans rfl, (blk_cell BK171.out 4).trans rfl, (blk_cell BK171.out 5).trans rfl, (blk_cell BK171.out 6).trans rfl, (blk_cell BK171.out 7).trans rfl, (blk_cell BK171.out 8).trans rfl, (blk_cell BK171.out 9).trans rfl, (blk_cell BK171.out 10).trans rfl, (blk_cell BK171.out 11).trans rfl, (blk_cell BK171.out 12).trans rfl, HS13_⟩ (fun hHeld => ?_)
       clear hK K
       refine norm_ (a' := ?_) ?_ ?_
       rotate_left
       ·show Act.put _ (some 34) _ = _
        simp only [Act.put, zA10_, zB10_, zC10_, i64_w, i32_w]
        rfl
       refine pure_ (i := 24) (N := some 35) (v := ?_) (a' := ?_) (bq_10_ 27 33554431) rfl rfl (any_of HT_.out (by kernel_rfl)) (fun _ _ _ h => h) (Or.inl ⟨by rfl, ?_⟩) ?_ ?_
       rotate_left
       ·intro w'
        go_simp
        with_reducible rfl
       rotate_left
       ·simp only [Act.put, zA10_, zB10_, zC10_, i64_w, i32_w]
        rfl
       refine pure_ (i := 25) (N := some 36) (v := ?_) (a' := ?_) (bq_10_ 27 67108863) rfl rfl (any_of HT_.out (by kernel_rfl)) (fun _ _ _ h => h) (Or.inl ⟨by rfl, ?_⟩) ?_ ?_
       rotate_left
       ·intro w'
        go_simp
        with_reducible rfl
       rotate_left
       ·simp only [Act.put, zA10_, zB10_, zC10_, i64_w, i32_w]
        rfl
       refine pure_ (i := 26) (N := some 0) (v := ?_) (a' := ?_) (bq_10_ 27 134217727) rfl rfl (any_of HT_.out (by kernel_rfl)) (fun _ _ _ h => h) (Or.inl ⟨by rfl, ?_⟩) ?_ ?_
       rotate_left
       ·intro w'
        go_simp
        with_reducible rfl
       rotate_left
       ·simp only [Act.put, zA10_, zB10_, zC10_, i64_w, i32_w]
        rfl
       refine done_ (done_of HT_.out (by kernel_rfl)) ?_
       try go_wp2
       go_ret
       exact ⟨by first | rfl | (simp [errW_none, errW_some] <;> rfl) | (simp [*, errW_none, errW_some] <;> rfl), by repeat (first | (with_reducible first | exact HB.out | apply below_alloc | apply pw_below_drewN | apply below_drew1 | refine below_set ?_ GE171.out) | exact HB.out)⟩
      ·rw [if_neg c13] at H
       have c13b0 : ((rd t172 2) == 4) = false := beq_eq_false_iff_ne.mpr c13
       have c13b1 : ((rd t172 2) != 4) = true := bne_iff_ne.mpr c13
       obtain rfl := Option.some.inj H
       go_enter Try.func14, Try.ntmps14
       try go_wp2_with (first | ((with_reducible refine gate_callee (f := 25) rfl ?_); refine goesL_ (some 5) rfl rfl Try.func25 (by kernel_rfl) rfl #[] rfl (by (try simp only [List.map_toArray, List.map_cons, List.map_nil]); first | done | rfl | (simp only [List.length_drop, List.length_take]; rfl)) ?_; (with_reducible refine (wapentakelaw04_some.calls  t143 t144 t145 t146 t147 t148 t149 t150 t151 t152 t153 t154 t155 _ A1.out).mono ?_); rintro e w27 ⟨rfl, hb⟩; refine ⟨_, rfl, ?_⟩; have n0_ := Aside0.mk (below_step (by repeat (first | (with_reducible first | exact HB.out | apply below_alloc | apply pw_below_drewN | apply below_drew1) | exact HB.out)) hb); clear HB; have HB := n0_; clear n0_; (try clear hb); (try clear hb2); (try clear hk); (try clear hi)) | ((with_reducible refine gate_callee (f := 9) rfl ?_); refine goesL_ (some 6) rfl rfl Try.func9 (by kernel_rfl) rfl #[.agg #[.int .u64 t143, .int .u64 t144, .int .u8 t145, .int .u8 t146, .int .u8 t147, .int .u8 t148, .int .u8 t149, .int .u8 t150, .int .u8 t151, .int .u8 t152, .int .u8 t153, .int .u8 t154, .string t155]] rfl (by (try simp only [List.map_toArray, List.map_cons, List.map_nil]); first | done | rfl | (simp only [List.length_drop, List.length_take]; rfl)) ?_; (with_reducible refine (entry_Write.calls k t143 t144 t145 t146 t147 t148 t149 t150 t151 t152 t153 t154 t155 t156 _ A2.out).mono ?_); rintro e w28 ⟨rfl, hb⟩; refine ⟨_, rfl, ?_⟩; have n0_ := Aside0.mk (below_step (by repeat (first | (with_reducible first | exact HB.out | apply below_alloc | apply pw_below_drewN | apply below_drew1) | exact HB.out)) hb); clear HB; have HB := n0_; clear n0_; (try clear hb); (try clear hb2); (try clear hk); (try clear hi)) | ((with_reducible refine gate_callee (f := 11) rfl ?_); refine goesL_ (some 7) rfl rfl Try.func11 (by kernel_rfl) rfl #[.string t156] rfl (by (try simp only [List.map_toArray, List.map_cons, List.map_nil]); first | done | rfl | (simp only [List.length_drop, List.length_take]; rfl)) ?_; (with_reducible refine (entry_Read.calls k t156 t157 t158 t159 t160 t161 t162 t163 t164 t165 t166 t167 t168 t169 true _ A3.out).mono ?_); rintro e w29 ⟨rfl, hb⟩; refine ⟨_, rfl, ?_⟩; have n0_ := Aside0.mk (below_step (by repeat (first | (with_reducible first | exact HB.out | apply below_alloc | apply pw_below_drewN | apply below_drew1) | exact HB.out)) hb); clear HB; have HB := n0_; clear n0_; (try clear hb); (try clear hb2); (try clear hk); (try clear hi)) | ((with_reducible refine gate_dst (N := 1) rfl ?_); (try (refine gate_guard (by rfl) ?_; dsimp only)); refine box_event ?hg (N := 1) ?hd (cs := #[.int .u64 0, .int .u64 0, .int .u8 0, .int .u8 0, .int .u8 0, .int .u8 0, .int .u8 0, .int .u8 0, .int .u8 0, .int .u8 0, .int .u8 0, .int .u8 0, .string (⟨#[]⟩ : ByteArray)]) (t := 27) ?hr ?_; (case hd => rfl); (case hg => rfl); (case hr => first | (go_simp; done) | (go_simp; rfl)); intro gb171 hg w30 hbox hb; have n0_ := Aside0.mk (below_step (by repeat (first | (with_reducible first | exact HB.out | apply below_alloc | apply pw_below_drewN | apply below_drew1) | exact HB.out)) hb); have n1_ := Aside0.mk (hbox); have n2_ := Aside0.mk ((by rw [hg]; exact (below_size (by repeat (first | (with_reducible first | exact HB.out | apply below_alloc | apply pw_below_drewN | apply below_drew1) | exact HB.out))) : w.heap.size ≤ gb171)); have n3_ := Aside0.mk ((by rw [hg]; exact (below_size (by repeat (first | (with_reducible first | exact HB.out | apply below_alloc | apply pw_below_drewN | apply below_drew1) | exact HB.out))) : w.heap.size ≤ gb171)); clear HB; have HB := n0_; have BK171 := n1_; have GW171 := n2_; have GE171 := n3_; clear n0_ n1_ n2_ n3_; clear hb hbox hg; have hcz31_0 : w30.cell? ⟨gb171, 0, none⟩ = some (.int .u64 0) := (blk_cell BK171.out 0).trans rfl; have hcz31_1 : w30.cell? ⟨gb171, 1, none⟩ = some (.int .u64 0) := (blk_cell BK171.out 1).trans rfl; have hcz31_2 : w30.cell? ⟨gb171, 2, none⟩ = some (.int .u8 0) := (blk_cell BK171.out 2).trans rfl; have hcz31_3 : w30.cell? ⟨gb171, 3, none⟩ = some (.int .u8 0) := (blk_cell BK171.out 3).trans rfl; have hcz31_4 : w30.cell? ⟨gb171, 4, none⟩ = some (.int .u8 0) := (blk_cell BK171.out 4).trans rfl; have hcz31_5 : w30.cell? ⟨gb171, 5, none⟩ = some (.int .u8 0) := (blk_cell BK171.out 5).trans rfl; have hcz31_6 : w30.cell? ⟨gb171, 6, none⟩ = some (.int .u8 0) := (blk_cell BK171.out 6).trans rfl; have hcz31_7 : w30.cell? ⟨gb171, 7, none⟩ = some (.int .u8 0) := (blk_cell BK171.out 7).trans rfl; have hcz31_8 : w30.cell? ⟨gb171, 8, none⟩ = some (.int .u8 0) := (blk_cell BK171.out 8).trans rfl; have hcz31_9 : w30.cell? ⟨gb171, 9, none⟩ = some (.int .u8 0) := (blk_cell BK171.out 9).trans rfl; have hcz31_10 : w30.cell? ⟨gb171, 10, none⟩ = some (.int .u8 0) := (blk_cell BK171.out 10).trans rfl; have hcz31_11 : w30.cell? ⟨gb171, 11, none⟩ = some (.int .u8 0) := (blk_cell BK171.out 11).trans rfl; have hcz31_12 : w30.cell? ⟨gb171, 12, none⟩ = some (.string (⟨#[]⟩ : ByteArray)) := (blk_cell BK171.out 12).trans rfl; have hfz31_0 := blk_frozen BK171.out 0; have hfz31_1 := blk_frozen BK171.out 1; have hfz31_2 := blk_frozen BK171.out 2; have hfz31_3 := blk_frozen BK171.out 3; have hfz31_4 := blk_frozen BK171.out 4; have hfz31_5 := blk_frozen BK171.out 5; have hfz31_6 := blk_frozen BK171.out 6; have hfz31_7 := blk_frozen BK171.out 7; have hfz31_8 := blk_frozen BK171.out 8; have hfz31_9 := blk_frozen BK171.out 9; have hfz31_10 := blk_frozen BK171.out 10; have hfz31_11 := blk_frozen BK171.out 11; have hfz31_12 := blk_frozen BK171.out 12) | ((with_reducible refine gate_callee (f := 13) rfl ?_); refine goesL_ (some 10) rfl rfl Try.func13 (by kernel_rfl) rfl #[.int .u8 13] rfl (by (try simp only [List.map_toArray, List.map_cons, List.map_nil]); first | done | rfl | (simp only [List.length_drop, List.length_take]; rfl)) ?_; (with_reducible refine (entry_Members.calls k 13 t172 _ A4.out).mono ?_); rintro e w32 ⟨v173, rfl, ho0, hb⟩; refine ⟨_, rfl, ?_⟩; have n0_ := Aside0.mk (Kd.R_lower ho0 (below_size (by repeat (first | (with_reducible first | exact HB.out | apply below_alloc | apply pw_below_drewN | apply below_drew1 | refine below_set ?_ GE171.out) | exact HB.out)))); have n1_ := Aside0.mk (blk_below (g := gb171) (o := .cells #[.int .u64 t157, .int .u64 t158, .int .u8 t159, .int .u8 t160, .int .u8 t161, .int .u8 t162, .int .u8 t163, .int .u8 t164, .int .u8 t165, .int .u8 t166, .int .u8 t167, .int .u8 t168, .string t169] 27 (0, 0)) (by (with_reducible repeat (first | refine blk_drewN ?_ _ | refine blk_drew ?_ | refine blk_alloc ?_ _)); refine blk_put (cs := #[.int .u64 t157, .int .u64 t158, .int .u8 t159, .int .u8 t160, .int .u8 t161, .int .u8 t162, .int .u8 t163, .int .u8 t164, .int .u8 t165, .int .u8 t166, .int .u8 t167, .int .u8 t168, .string (⟨#[]⟩ : ByteArray)]) ?_ 12 _ rfl; (with_reducible repeat (first | refine blk_drewN ?_ _ | refine blk_drew ?_ | refine blk_alloc ?_ _)); refine blk_put (cs := #[.int .u64 t157, .int .u64 t158, .int .u8 t159, .int .u8 t160, .int .u8 t161, .int .u8 t162, .int .u8 t163, .int .u8 t164, .int .u8 t165, .int .u8 t166, .int .u8 t167, .int .u8 0, .string (⟨#[]⟩ : ByteArray)]) ?_ 11 _ rfl; (with_reducible repeat (first | refine blk_drewN ?_ _ | refine blk_drew ?_ | refine blk_alloc ?_ _)); refine blk_put (cs := #[.int .u64 t157, .int .u64 t158, .int .u8 t159, .int .u8 t160, .int .u8 t161, .int .u8 t162, .int .u8 t163, .int .u8 t164, .int .u8 t165, .int .u8 t166, .int .u8 0, .int .u8 0, .string (⟨#[]⟩ : ByteArray)]) ?_ 10 _ rfl; (with_reducible repeat (first | refine blk_drewN ?_ _ | refine blk_drew ?_ | refine blk_alloc ?_ _)); refine blk_put (cs := #[.int .u64 t157, .int .u64 t158, .int .u8 t159, .int .u8 t160, .int .u8 t161, .int .u8 t162, .int .u8 t163, .int .u8 t164, .int .u8 t165, .int .u8 0, .int .u8 0, .int .u8 0, .string (⟨#[]⟩ : ByteArray)]) ?_ 9 _ rfl; (with_reducible repeat (first | refine blk_drewN ?_ _ | refine blk_drew ?_ | refine blk_alloc ?_ _)); refine blk_put (cs := #[.int .u64 t157, .int .u64 t158, .int .u8 t159, .int .u8 t160, .int .u8 t161, .int .u8 t162, .int .u8 t163, .int .u8 t164, .int .u8 0, .int .u8 0, .int .u8 0, .int .u8 0, .string (⟨#[]⟩ : ByteArray)]) ?_ 8 _ rfl; (with_reducible repeat (first | refine blk_drewN ?_ _ | refine blk_drew ?_ | refine blk_alloc ?_ _)); refine blk_put (cs := #[.int .u64 t157, .int .u64 t158, .int .u8 t159, .int .u8 t160, .int .u8 t161, .int .u8 t162, .int .u8 t163, .int .u8 0, .int .u8 0, .int .u8 0, .int .u8 0, .int .u8 0, .string (⟨#[]⟩ : ByteArray)]) ?_ 7 _ rfl; (with_reducible repeat (first | refine blk_drewN ?_ _ | refine blk_drew ?_ | refine blk_alloc ?_ _)); refine blk_put (cs := #[.int .u64 t157, .int .u64 t158, .int .u8 t159, .int .u8 t160, .int .u8 t161, .int .u8 t162, .int .u8 0, .int .u8 0, .int .u8 0, .int .u8 0, .int .u8 0, .int .u8 0, .string (⟨#[]⟩ : ByteArray)]) ?_ 6 _ rfl; (with_reducible repeat (first | refine blk_drewN ?_ _ | refine blk_drew ?_ | refine blk_alloc ?_ _)); refine blk_put (cs := #[.int .u64 t157, .int .u64 t158, .int .u8 t159, .int .u8 t160, .int .u8 t161, .int .u8 0, .int .u8 0, .int .u8 0, .int .u8 0, .int .u8 0, .int .u8 0, .int .u8 0, .string (⟨#[]⟩ : ByteArray)]) ?_ 5 _ rfl; (with_reducible repeat (first | refine blk_drewN ?_ _ | refine blk_drew ?_ | refine blk_alloc ?_ _)); refine blk_put (cs := #[.int .u64 t157, .int .u64 t158, .int .u8 t159, .int .u8 t160, .int .u8 0, .int .u8 0, .int .u8 0, .int .u8 0, .int .u8 0, .int .u8 0, .int .u8 0, .int .u8 0, .string (⟨#[]⟩ : ByteArray)]) ?_ 4 _ rfl; (with_reducible repeat (first | refine blk_drewN ?_ _ | refine blk_drew ?_ | refine blk_alloc ?_ _)); refine blk_put (cs := #[.int .u64 t157, .int .u64 t158, .int .u8 t159, .int .u8 0, .int .u8 0, .int .u8 0, .int .u8 0, .int .u8 0, .int .u8 0, .int .u8 0, .int .u8 0, .int .u8 0, .string (⟨#[]⟩ : ByteArray)]) ?_ 3 _ rfl; (with_reducible repeat (first | refine blk_drewN ?_ _ | refine blk_drew ?_ | refine blk_alloc ?_ _)); refine blk_put (cs := #[.int .u64 t157, .int .u64 t158, .int .u8 0, .int .u8 0, .int .u8 0, .int .u8 0, .int .u8 0, .int .u8 0, .int .u8 0, .int .u8 0, .int .u8 0, .int .u8 0, .string (⟨#[]⟩ : ByteArray)]) ?_ 2 _ rfl; (with_reducible repeat (first | refine blk_drewN ?_ _ | refine blk_drew ?_ | refine blk_alloc ?_ _)); refine blk_put (cs := #[.int .u64 t157, .int .u64 0, .int .u8 0, .int .u8 0, .int .u8 0, .int .u8 0, .int .u8 0, .int .u8 0, .int .u8 0, .int .u8 0, .int .u8 0, .int .u8 0, .string (⟨#[]⟩ : ByteArray)]) ?_ 1 _ rfl; (with_reducible repeat (first | refine blk_drewN ?_ _ | refine blk_drew ?_ | refine blk_alloc ?_ _)); refine blk_put (cs := #[.int .u64 0, .int .u64 0, .int .u8 0, .int .u8 0, .int .u8 0, .int .u8 0, .int .u8 0, .int .u8 0, .int .u8 0, .int .u8 0, .int .u8 0, .int .u8 0, .string (⟨#[]⟩ : ByteArray)]) ?_ 0 _ rfl; (with_reducible repeat (first | refine blk_drewN ?_ _ | refine blk_drew ?_ | refine blk_alloc ?_ _)); exact BK171.out) hb); have n2_ := Aside0.mk (below_step (by repeat (first | (with_reducible first | exact HB.out | apply below_alloc | apply pw_below_drewN | apply below_drew1 | refine below_set ?_ GE171.out) | exact HB.out)) hb); clear BK171; clear HB; have HO174 := n0_; have BK171 := n1_; have HB := n2_; clear n0_ n1_ n2_; (try clear hb); (try clear hb2); (try clear hk); (try clear hi); (try clear ho0)))
       have n0_ := Aside0.mk (Kd.R_drew HO174.out)
       have n1_ := Aside0.mk (blk_drew BK171.out)
       have n2_ := Aside0.mk (below_drew1 HB.out)
       clear HO174
       clear BK171
       clear HB
       have HO174 := n0_
       have BK171 := n1_
       have HB := n2_
       clear n0_ n1_ n2_
       obtain ⟨Ao37, co37, eo37⟩ := Kd.R_slice HO174.out
       (first | subst eo37 | (injection eo37 with f1_ f2_ f3_; have f4_ := f1_.symm; have f5_ := f3_.symm; clear f1_ f2_ f3_; subst f4_; subst f5_))
       have p202 : 0 ≤ (2 : Int) := (by omega)
       have q202 : 2 < (t172.length : Int) := of_decide_eq_true (by first | (with_reducible assumption) | assumption)
       obtain ⟨ad202, e202, hx202_0⟩ := Kd.at_int (Kd.R_reads' HO174.out).2.2 2 p202 q202
       cases e202
       (try simp only [show (2 : Int).toNat = 2 from rfl, Nat.reduceMul, Nat.reduceEqDiff, Go.Addr.add, ↓reduceIte] at hx202_0)
       have qi202 : (2 < t172.length) = True := eq_true (by omega)
       (try rw [show ((2 : Int)).toNat = 2 from rfl] at hx202_0)
       replace p202 := eq_true p202
       replace q202 := eq_true q202
       refine start_ (n := 27) (S := fun w' => w'.cell? ⟨gb171, 0, none⟩ = some (.int .u64 t157) ∧ w'.cell? ⟨gb171, 1, none⟩ = some (.int .u64 t158) ∧ w'.cell? ⟨gb171, 2, none⟩ = some (.int .u8 t159) ∧ w'.cell? ⟨gb171, 3, none⟩ = some (.int .u8 t160) ∧ w'.cell? ⟨gb171, 4, none⟩ = some (.int .u8 t161) ∧ w'.cell? ⟨gb171, 5, none⟩ = some (.int .u8 t162) ∧ w'.cell? ⟨gb171, 6, none⟩ = some (.int .u8 t163) ∧ w'.cell? ⟨gb171, 7, none⟩ = some (.int .u8 t164) ∧ w'.cell? ⟨gb171, 8, none⟩ = some (.int .u8 t165) ∧ w'.cell? ⟨gb171, 9, none⟩ = some (.int .u8 t166) ∧ w'.cell? ⟨gb171, 10, none⟩ = some (.int .u8 t167) ∧ w'.cell? ⟨gb171, 11, none⟩ = some (.int .u8 t168) ∧ w'.cell? ⟨gb171, 12, none⟩ = some (.string t169) ∧ w'.cell? ⟨ad202.block, ad202.off + 2, none⟩ = some (.int .u8 (rd t172 2))) (ds := []) #[false, false, false, false, false, false, false, false, false, false, false, false, false, false, false, false, false, false, false, false, false, false, false, false, false, false, false] (by kernel_rfl) rfl rfl ⟨(blk_cell BK171.out 0).trans rfl, (blk_cell BK171.out 1).trans rfl, (blk_cell BK171.out 2).trans rfl, (blk_cell BK171.out 3).trans rfl, (blk_cell BK171.out 4).trans rfl, (blk_cell BK171.out 5).trans rfl, (blk_cell BK171.out 6).trans rfl, (blk_cell BK171.out 7).trans rfl, (blk_cell BK171.out 8).trans rfl, (blk_cell BK171.out 9).trans rfl, (blk_cell BK171.out 10).trans rfl, (blk_cell BK171.out 11).trans rfl, (blk_cell BK171.out 12).trans rfl, hx202_0⟩ (fun hHeld => ?_); refine with_tabW wapentakelaw04_awake.tab3 wapentakelaw04_awake.bits3 (fun HT_ HW_ => ?_)
       generalize w32.drew = w33 at HO174 BK171 HB hx202_0 hHeld ⊢
       refine one_ (i := 0) (N := some 11) (bq_10_ 27 1) rfl rfl (one_of HT_.out (by kernel_rfl)) (by decide) (fun K hK => ?_)
       refine goes_ Try.func25 (by kernel_rfl) rfl #[] (by rfl) rfl rfl (by (try simp only [List.map_toArray, List.map_cons, List.map_nil]); first | done | rfl | (simp only [List.length_drop, List.length_take]; rfl)) ?_
       with_reducible refine (wapentakelaw04_some.calls  t175 t176 t177 t178 t179 t180 t181 t182 t183 t184 t185 t186 t187 _ A5.out).mono ?_
       rintro e w34 ⟨rfl, hb⟩
       have HS13_ := (hb.cell (World.block_lt_of_cell? _ _ (hHeld.2.2.2.2.2.2.2.2.2.2.2.2.2))).trans (hHeld.2.2.2.2.2.2.2.2.2.2.2.2.2)
       refine ⟨_, rfl, ?_⟩
       have n0_ := Aside0.mk (Kd.R_below (by (with_reducible repeat (first | apply Kd.R_alloc | apply Kd.R_drewN | apply Kd.R_drew)); exact HO174.out) hb)
       have n1_ := Aside0.mk (blk_below (g := gb171) (o := .cells #[.int .u64 t157, .int .u64 t158, .int .u8 t159, .int .u8 t160, .int .u8 t161, .int .u8 t162, .int .u8 t163, .int .u8 t164, .int .u8 t165, .int .u8 t166, .int .u8 t167, .int .u8 t168, .string t169] 27 (0, 0)) (by (with_reducible repeat (first | refine blk_drewN ?_ _ | refine blk_drew ?_ | refine blk_alloc ?_ _)); exact BK171.out) hb)
       have n2_ := Aside0.mk (below_step (by repeat (first | (with_reducible first | exact HB.out | apply below_alloc | apply pw_below_drewN | apply below_drew1 | refine below_set ?_ GE171.out) | exact HB.out)) hb)
       clear HO174
       clear BK171
       clear HB
       have HO174 := n0_
       have BK171 := n1_
       have HB := n2_
       clear n0_ n1_ n2_
       (try clear hb)
       (try clear hb2)
       (try clear hk)
       (try clear hi)
       refine hK.out _ _ ⟨(blk_cell BK171.out 0).trans rfl, (blk_cell BK171.out 1).trans rfl, (blk_cell BK171.out 2).trans rfl, (blk_cell BK171.out 3).trans rfl, (blk_cell BK171.out 4).trans rfl, (blk_cell BK171.out 5).trans rfl, (blk_cell BK171.out 6).trans rfl, (blk_cell BK171.out 7).trans rfl, (blk_cell BK171.out 8).trans rfl, (blk_cell BK171.out 9).trans rfl, (blk_cell BK171.out 10).trans rfl, (blk_cell BK171.out 11).trans rfl, (blk_cell BK171.out 12).trans rfl, HS13_⟩ (fun hHeld => ?_)
       clear hK K
       refine norm_ (a' := ?_) ?_ ?_
       rotate_left
       ·show Act.put _ (some 11) _ = _
        simp only [Act.put, zA10_, zB10_, zC10_, i64_w, i32_w]
        rfl
       refine one_ (i := 1) (N := some 12) (bq_10_ 27 3) rfl rfl (one_of HT_.out (by kernel_rfl)) (by decide) (fun K hK => ?_)
       refine goes_ Try.func9 (by kernel_rfl) rfl #[.agg #[.int .u64 t175, .int .u64 t176, .int .u8 t177, .int .u8 t178, .int .u8 t179, .int .u8 t180, .int .u8 t181, .int .u8 t182, .int .u8 t183, .int .u8 t184, .int .u8 t185, .int .u8 t186, .string t187]] (by rfl) rfl rfl (by (try simp only [List.map_toArray, List.map_cons, List.map_nil]); first | done | rfl | (simp only [List.length_drop, List.length_take]; rfl)) ?_
       with_reducible refine (entry_Write.calls k t175 t176 t177 t178 t179 t180 t181 t182 t183 t184 t185 t186 t187 t188 _ A6.out).mono ?_
       rintro e w35 ⟨rfl, hb⟩
       have HS13_ := (hb.cell (World.block_lt_of_cell? _ _ (hHeld.2.2.2.2.2.2.2.2.2.2.2.2.2))).trans (hHeld.2.2.2.2.2.2.2.2.2.2.2.2.2)
       refine ⟨_, rfl, ?_⟩
       have n0_ := Aside0.mk (Kd.R_below (by (with_reducible repeat (first | apply Kd.R_alloc | apply Kd.R_drewN | apply Kd.R_drew)); exact HO174.out) hb)
       have n1_ := Aside0.mk (blk_below (g := gb171) (o := .cells #[.int .u64 t157, .int .u64 t158, .int .u8 t159, .int .u8 t160, .int .u8 t161, .int .u8 t162, .int .u8 t163, .int .u8 t164, .int .u8 t165, .int .u8 t166, .int .u8 t167, .int .u8 t168, .string t169] 27 (0, 0)) (by (with_reducible repeat (first | refine blk_drewN ?_ _ | refine blk_drew ?_ | refine blk_alloc ?_ _)); exact BK171.out) hb)
       have n2_ := Aside0.mk (below_step (by repeat (first | (with_reducible first | exact HB.out | apply below_alloc | apply pw_below_drewN | apply below_drew1 | refine below_set ?_ GE171.out) | exact HB.out)) hb)
       clear HO174
       clear BK171
       clear HB
       have HO174 := n0_
       have BK171 := n1_
       have HB := n2_
       clear n0_ n1_ n2_
       (try clear hb)
       (try clear hb2)
       (try clear hk)
       (try clear hi)
       refine hK.out _ _ ⟨(blk_cell BK171.out 0).trans rfl, (blk_cell BK171.out 1).trans rfl, (blk_cell BK171.out 2).trans rfl, (blk_cell BK171.out 3).trans rfl, (blk_cell BK171.out 4).trans rfl, (blk_cell BK171.out 5).trans rfl, (blk_cell BK171.out 6).trans rfl, (blk_cell BK171.out 7).trans rfl, (blk_cell BK171.out 8).trans rfl, (blk_cell BK171.out 9).trans rfl, (blk_cell BK171.out 10).trans rfl, (blk_cell BK171.out 11).trans rfl, (blk_cell BK171.out 12).trans rfl, HS13_⟩ (fun hHeld => ?_)
       clear hK K
       refine norm_ (a' := ?_) ?_ ?_
       rotate_left
       ·show Act.put _ (some 12) _ = _
        simp only [Act.put, zA10_, zB10_, zC10_, i64_w, i32_w]
        rfl
       refine pure_ (i := 2) (N := some 13) (v := ?_) (a' := ?_) (bq_10_ 27 7) rfl rfl (any_of HT_.out (by kernel_rfl)) (fun _ _ _ h => h) (Or.inl ⟨by rfl, ?_⟩) ?_ ?_
       rotate_left
       ·intro w'
        go_simp
        with_reducible rfl
       rotate_left
       ·simp only [Act.put, zA10_, zB10_, zC10_, i64_w, i32_w]
        rfl
       refine pure_ (i := 3) (N := some 14) (v := ?_) (a' := ?_) (bq_10_ 27 15) rfl rfl (any_of HT_.out (by kernel_rfl)) (fun _ _ _ h => h) (Or.inl ⟨by rfl, ?_⟩) ?_ ?_
       rotate_left
       ·intro w'
        go_simp
        with_reducible rfl
       rotate_left
       ·simp only [Act.put, zA10_, zB10_, zC10_, i64_w, i32_w]
        rfl
       refine pure_ (i := 4) (N := some 15) (v := ?_) (a' := ?_) (bq_10_ 27 31) rfl rfl (any_of HT_.out (by kernel_rfl)) (fun _ _ _ h => h) (Or.inl ⟨by rfl, ?_⟩) ?_ ?_
       rotate_left
       ·intro w'
        go_simp
        with_reducible rfl
       rotate_left
       ·simp only [Act.put, zA10_, zB10_, zC10_, i64_w, i32_w]
        rfl
       refine pure_ (i := 5) (N := some 16) (v := ?_) (a' := ?_) (bq_10_ 27 63) rfl rfl (any_of HT_.out (by kernel_rfl)) (fun _ _ _ h => h) (Or.inl ⟨by rfl, ?_⟩) ?_ ?_
       rotate_left
       ·intro w'
        go_simp
        with_reducible rfl
       rotate_left
       ·simp only [Act.put, zA10_, zB10_, zC10_, i64_w, i32_w]
        rfl
       refine pure_ (i := 6) (N := some 17) (v := ?_) (a' := ?_) (bq_10_ 27 127) rfl rfl (any_of HT_.out (by kernel_rfl)) (fun _ _ _ h => h) (Or.inl ⟨by rfl, ?_⟩) ?_ ?_
       rotate_left
       ·intro w'
        go_simp
        with_reducible rfl
       rotate_left
       ·simp only [Act.put, zA10_, zB10_, zC10_, i64_w, i32_w]
        rfl
       refine take_ (i := 7) (N := some 18) (v := ?_) (a' := ?_) (bq_10_ 27 255) rfl rfl (take_ofW HT_.out HW_.out (by kernel_rfl)) (fun _ _ _ h => h) (Or.inl ⟨by rfl, ?_⟩) hHeld ?_ ?_
       rotate_left
       ·rintro w' ⟨s0, s1, s2, s3, s4, s5, s6, s7, s8, s9, s10, s11, s12, s13⟩
        go_simp
        with_reducible rfl
       rotate_left
       ·simp only [Act.put, zA10_, zB10_, zC10_, i64_w, i32_w]
        rfl
       refine one_ (i := 8) (N := some 19) (bq_10_ 27 511) rfl rfl (one_of HT_.out (by kernel_rfl)) (by decide) (fun K hK => ?_)
       refine goes_ Try.func25 (by kernel_rfl) rfl #[] (by rfl) rfl rfl (by (try simp only [List.map_toArray, List.map_cons, List.map_nil]); first | done | rfl | (simp only [List.length_drop, List.length_take]; rfl)) ?_
       with_reducible refine (wapentakelaw04_some.calls  t189 t190 t191 t192 t193 t194 t195 t196 t197 t198 t199 t200 t201 _ A9.out).mono ?_
       rintro e w36 ⟨rfl, hb⟩
       have HS13_ := (hb.cell (World.block_lt_of_cell? _ _ (hHeld.2.2.2.2.2.2.2.2.2.2.2.2.2))).trans (hHeld.2.2.2.2.2.2.2.2.2.2.2.2.2)
       refine ⟨_, rfl, ?_⟩
       have n0_ := Aside0.mk (Kd.R_below (by (with_reducible repeat (first | apply Kd.R_alloc | apply Kd.R_drewN | apply Kd.R_drew)); exact HO174.out) hb)
       have n1_ := Aside0.mk (blk_below (g := gb171) (o := .cells #[.int .u64 t157, .int .u64 t158, .int .u8 t159, .int .u8 t160, .int .u8 t161, .int .u8 t162, .int .u8 t163, .int .u8 t164, .int .u8 t165, .int .u8 t166, .int .u8 t167, .int .u8 t168, .string t169] 27 (0, 0)) (by (with_reducible repeat (first | refine blk_drewN ?_ _ | refine blk_drew ?_ | refine blk_alloc ?_ _)); exact BK171.out) hb)
       have n2_ := Aside0.mk (below_step (by repeat (first | (with_reducible first | exact HB.out | apply below_alloc | apply pw_below_drewN | apply below_drew1 | refine below_set ?_ GE171.out) | exact HB.out)) hb)
       clear HO174
       clear BK171
       clear HB
       have HO174 := n0_
       have BK171 := n1_
       have HB := n2_
       clear n0_ n1_ n2_
       (try clear hb)
       (try clear hb2)
       (try clear hk)
       (try clear hi)
       refine hK.out _ _ ⟨(blk_cell BK171.out 0).trans rfl, (blk_cell BK171.out 1).trans rfl, (blk_cell BK171.out 2).trans rfl, (blk_cell BK171.out 3).trans rfl, (blk_cell BK171.out 4).trans rfl, (blk_cell BK171.out 5).trans rfl, (blk_cell BK171.out 6).trans rfl, (blk_cell BK171.out 7).trans rfl, (blk_cell BK171.out 8).trans rfl, (blk_cell BK171.out 9).trans rfl, (blk_cell BK171.out 10).trans rfl, (blk_cell BK171.out 11).trans rfl, (blk_cell BK171.out 12).trans rfl, HS13_⟩ (fun hHeld => ?_)
       clear hK K
       refine norm_ (a' := ?_) ?_ ?_
       rotate_left
       ·show Act.put _ (some 19) _ = _
        simp only [Act.put, zA10_, zB10_, zC10_, i64_w, i32_w]
        rfl
       refine pure_ (i := 9) (N := some 20) (v := ?_) (a' := ?_) (bq_10_ 27 1023) rfl rfl (any_of HT_.out (by kernel_rfl)) (fun _ _ _ h => h) (Or.inl ⟨by rfl, ?_⟩) ?_ ?_
       rotate_left
       ·intro w'
        go_simp
        with_reducible rfl
       rotate_left
       ·simp only [Act.put, zA10_, zB10_, zC10_, i64_w, i32_w]
        rfl
       refine pure_ (i := 10) (N := some 21) (v := ?_) (a' := ?_) (bq_10_ 27 2047) rfl rfl (any_of HT_.out (by kernel_rfl)) (fun _ _ _ h => h) (Or.inl ⟨by rfl, ?_⟩) ?_ ?_
       rotate_left
       ·intro w'
        go_simp
        with_reducible rfl
       rotate_left
       ·simp only [Act.put, zA10_, zB10_, zC10_, i64_w, i32_w]
        rfl
       refine pure_ (i := 11) (N := some 22) (v := ?_) (a' := ?_) (bq_10_ 27 4095) rfl rfl (any_of HT_.out (by kernel_rfl)) (fun _ _ _ h => h) (Or.inl ⟨by rfl, ?_⟩) ?_ ?_
       rotate_left
       ·intro w'
        go_simp
        with_reducible rfl
       rotate_left
       ·simp only [Act.put, zA10_, zB10_, zC10_, i64_w, i32_w]
        rfl
       refine pure_ (i := 12) (N := some 23) (v := ?_) (a' := ?_) (bq_10_ 27 8191) rfl rfl (any_of HT_.out (by kernel_rfl)) (fun _ _ _ h => h) (Or.inl ⟨by rfl, ?_⟩) ?_ ?_
       rotate_left
       ·intro w'
        go_simp
        with_reducible rfl
       rotate_left
       ·simp only [Act.put, zA10_, zB10_, zC10_, i64_w, i32_w]
        rfl
       refine pure_ (i := 13) (N := some 24) (v := ?_) (a' := ?_) (bq_10_ 27 16383) rfl rfl (any_of HT_.out (by kernel_rfl)) (fun _ _ _ h => h) (Or.inl ⟨by rfl, ?_⟩) ?_ ?_
       rotate_left
       ·intro w'
        go_simp
        with_reducible rfl
       rotate_left
       ·simp only [Act.put, zA10_, zB10_, zC10_, i64_w, i32_w]
        rfl
       refine pure_ (i := 14) (N := some 25) (v := ?_) (a' := ?_) (bq_10_ 27 32767) rfl rfl (any_of HT_.out (by kernel_rfl)) (fun _ _ _ h => h) (Or.inl ⟨by rfl, ?_⟩) ?_ ?_
       rotate_left
       ·intro w'
        go_simp
        with_reducible rfl
       rotate_left
       ·simp only [Act.put, zA10_, zB10_, zC10_, i64_w, i32_w]
        rfl
       refine pure_ (i := 15) (N := some 26) (v := ?_) (a' := ?_) (bq_10_ 27 65535) rfl rfl (any_of HT_.out (by kernel_rfl)) (fun _ _ _ h => h) (Or.inl ⟨by rfl, ?_⟩) ?_ ?_
       rotate_left
       ·intro w'
        go_simp
        with_reducible rfl
       rotate_left
       ·simp only [Act.put, zA10_, zB10_, zC10_, i64_w, i32_w]
        rfl
       refine pure_ (i := 16) (N := some 27) (v := ?_) (a' := ?_) (bq_10_ 27 131071) rfl rfl (any_of HT_.out (by kernel_rfl)) (fun _ _ _ h => h) (Or.inl ⟨by rfl, ?_⟩) ?_ ?_
       rotate_left
       ·intro w'
        go_simp
        with_reducible rfl
       rotate_left
       ·simp only [Act.put, zA10_, zB10_, zC10_, i64_w, i32_w]
        rfl
       refine pure_ (i := 17) (N := some 28) (v := ?_) (a' := ?_) (bq_10_ 27 262143) rfl rfl (any_of HT_.out (by kernel_rfl)) (fun _ _ _ h => h) (Or.inl ⟨by rfl, ?_⟩) ?_ ?_
       rotate_left
       ·intro w'
        go_simp
        with_reducible rfl
       rotate_left
       ·simp only [Act.put, zA10_, zB10_, zC10_, i64_w, i32_w]
        rfl
       refine pure_ (i := 18) (N := some 29) (v := ?_) (a' := ?_) (bq_10_ 27 524287) rfl rfl (any_of HT_.out (by kernel_rfl)) (fun _ _ _ h => h) (Or.inl ⟨by rfl, ?_⟩) ?_ ?_
       rotate_left
       ·intro w'
        go_simp
        with_reducible rfl
       rotate_left
       ·simp only [Act.put, zA10_, zB10_, zC10_, i64_w, i32_w]
        rfl
       refine take_ (i := 19) (N := some 30) (v := ?_) (a' := ?_) (bq_10_ 27 1048575) rfl rfl (take_ofW HT_.out HW_.out (by kernel_rfl)) (fun _ _ _ h => h) (Or.inl ⟨by rfl, ?_⟩) hHeld ?_ ?_
       rotate_left
       ·rintro w' ⟨s0, s1, s2, s3, s4, s5, s6, s7, s8, s9, s10, s11, s12, s13⟩
        go_simp
        with_reducible rfl
       rotate_left
       ·simp only [Act.put, zA10_, zB10_, zC10_, i64_w, i32_w]
        rfl
       refine pure_ (i := 20) (N := some 31) (v := ?_) (a' := ?_) (bq_10_ 27 2097151) rfl rfl (any_of HT_.out (by kernel_rfl)) (fun _ _ _ h => h) (Or.inl ⟨by rfl, ?_⟩) ?_ ?_
       rotate_left
       ·intro w'
        go_simp
        with_reducible rfl
       rotate_left
       ·simp only [Act.put, zA10_, zB10_, zC10_, i64_w, i32_w]
        rfl
       refine pure_ (i := 21) (N := some 32) (v := ?_) (a' := ?_) (bq_10_ 27 4194303) rfl rfl (any_of HT_.out (by kernel_rfl)) (fun _ _ _ h => h) (Or.inl ⟨by rfl, ?_⟩) ?_ ?_
       rotate_left
       ·intro w'
        go_simp
        with_reducible rfl
       rotate_left
       ·simp only [Act.put, zA10_, zB10_, zC10_, i64_w, i32_w]
        rfl
       refine pure_ (i := 22) (N := some 33) (v := ?_) (a' := ?_) (bq_10_ 27 8388607) rfl rfl (any_of HT_.out (by kernel_rfl)) (fun _ _ _ h => h) (Or.inl ⟨by rfl, ?_⟩) ?_ ?_
       rotate_left
       ·intro w'
        go_simp
        with_reducible rfl
       rotate_left
       ·simp only [Act.put, zA10_, zB10_, zC10_, i64_w, i32_w]
        rfl
       refine pure_ (i := 23) (N := some 34) (v := undef) (a' := ?_) (bq_10_ 27 16777215) rfl rfl (any_of HT_.out (by kernel_rfl)) (fun _ _ _ h => h) (Or.inr ⟨by rfl, rfl⟩) ?_ ?_
       rotate_left
       ·simp only [Act.put, zA10_, zB10_, zC10_, i64_w, i32_w]
        rfl
       refine pure_ (i := 24) (N := some 35) (v := undef) (a' := ?_) (bq_10_ 27 33554431) rfl rfl (any_of HT_.out (by kernel_rfl)) (fun _ _ _ h => h) (Or.inr ⟨by rfl, rfl⟩) ?_ ?_
       rotate_left
       ·simp only [Act.put, zA10_, zB10_, zC10_, i64_w, i32_w]
        rfl
       refine pure_ (i := 25) (N := some 36) (v := ?_) (a' := ?_) (bq_10_ 27 67108863) rfl rfl (any_of HT_.out (by kernel_rfl)) (fun _ _ _ h => h) (Or.inl ⟨by rfl, ?_⟩) ?_ ?_
       rotate_left
       ·intro w'
        go_simp
        with_reducible rfl
       rotate_left
       ·simp only [Act.put, zA10_, zB10_, zC10_, i64_w, i32_w]
        rfl
       refine pure_ (i := 26) (N := some 0) (v := ?_) (a' := ?_) (bq_10_ 27 134217727) rfl rfl (any_of HT_.out (by kernel_rfl)) (fun _ _ _ h => h) (Or.inl ⟨by rfl, ?_⟩) ?_ ?_
       rotate_left
       ·intro w'
        go_simp
        with_reducible rfl
       rotate_left
       ·simp only [Act.put, zA10_, zB10_, zC10_, i64_w, i32_w]
        rfl
       refine done_ (done_of HT_.out (by kernel_rfl)) ?_
       try go_wp2
       go_ret
       exact ⟨by first | rfl | (simp [errW_none, errW_some] <;> rfl) | (simp [*, errW_none, errW_some] <;> rfl), by repeat (first | (with_reducible first | exact HB.out | apply below_alloc | apply pw_below_drewN | apply below_drew1 | refine below_set ?_ GE171.out) | exact HB.out)⟩
     ·rw [if_neg c12] at H
      exact absurd H (by simp)
    ·rw [if_neg c11] at H
     have c11b0 : ((t172.length : Int) == 3) = false := beq_eq_false_iff_ne.mpr c11
     have c11b1 : ((t172.length : Int) != 3) = true := bne_iff_ne.mpr c11
     obtain rfl := Option.some.inj H
     go_enter Try.func14, Try.ntmps14
     try go_wp2_with (first | ((with_reducible refine gate_callee (f := 25) rfl ?_); refine goesL_ (some 5) rfl rfl Try.func25 (by kernel_rfl) rfl #[] rfl (by (try simp only [List.map_toArray, List.map_cons, List.map_nil]); first | done | rfl | (simp only [List.length_drop, List.length_take]; rfl)) ?_; (with_reducible refine (wapentakelaw04_some.calls  t143 t144 t145 t146 t147 t148 t149 t150 t151 t152 t153 t154 t155 _ A1.out).mono ?_); rintro e w38 ⟨rfl, hb⟩; refine ⟨_, rfl, ?_⟩; have n0_ := Aside0.mk (below_step (by repeat (first | (with_reducible first | exact HB.out | apply below_alloc | apply pw_below_drewN | apply below_drew1) | exact HB.out)) hb); clear HB; have HB := n0_; clear n0_; (try clear hb); (try clear hb2); (try clear hk); (try clear hi)) | ((with_reducible refine gate_callee (f := 9) rfl ?_); refine goesL_ (some 6) rfl rfl Try.func9 (by kernel_rfl) rfl #[.agg #[.int .u64 t143, .int .u64 t144, .int .u8 t145, .int .u8 t146, .int .u8 t147, .int .u8 t148, .int .u8 t149, .int .u8 t150, .int .u8 t151, .int .u8 t152, .int .u8 t153, .int .u8 t154, .string t155]] rfl (by (try simp only [List.map_toArray, List.map_cons, List.map_nil]); first | done | rfl | (simp only [List.length_drop, List.length_take]; rfl)) ?_; (with_reducible refine (entry_Write.calls k t143 t144 t145 t146 t147 t148 t149 t150 t151 t152 t153 t154 t155 t156 _ A2.out).mono ?_); rintro e w39 ⟨rfl, hb⟩; refine ⟨_, rfl, ?_⟩; have n0_ := Aside0.mk (below_step (by repeat (first | (with_reducible first | exact HB.out | apply below_alloc | apply pw_below_drewN | apply below_drew1) | exact HB.out)) hb); clear HB; have HB := n0_; clear n0_; (try clear hb); (try clear hb2); (try clear hk); (try clear hi)) | ((with_reducible refine gate_callee (f := 11) rfl ?_); refine goesL_ (some 7) rfl rfl Try.func11 (by kernel_rfl) rfl #[.string t156] rfl (by (try simp only [List.map_toArray, List.map_cons, List.map_nil]); first | done | rfl | (simp only [List.length_drop, List.length_take]; rfl)) ?_; (with_reducible refine (entry_Read.calls k t156 t157 t158 t159 t160 t161 t162 t163 t164 t165 t166 t167 t168 t169 true _ A3.out).mono ?_); rintro e w40 ⟨rfl, hb⟩; refine ⟨_, rfl, ?_⟩; have n0_ := Aside0.mk (below_step (by repeat (first | (with_reducible first | exact HB.out | apply below_alloc | apply pw_below_drewN | apply below_drew1) | exact HB.out)) hb); clear HB; have HB := n0_; clear n0_; (try clear hb); (try clear hb2); (try clear hk); (try clear hi)) | ((with_reducible refine gate_dst (N := 1) rfl ?_); (try (refine gate_guard (by rfl) ?_; dsimp only)); refine box_event ?hg (N := 1) ?hd (cs := #[.int .u64 0, .int .u64 0, .int .u8 0, .int .u8 0, .int .u8 0, .int .u8 0, .int .u8 0, .int .u8 0, .int .u8 0, .int .u8 0, .int .u8 0, .int .u8 0, .string (⟨#[]⟩ : ByteArray)]) (t := 27) ?hr ?_; (case hd => rfl); (case hg => rfl); (case hr => first | (go_simp; done) | (go_simp; rfl)); intro gb171 hg w41 hbox hb; have n0_ := Aside0.mk (below_step (by repeat (first | (with_reducible first | exact HB.out | apply below_alloc | apply pw_below_drewN | apply below_drew1) | exact HB.out)) hb); have n1_ := Aside0.mk (hbox); have n2_ := Aside0.mk ((by rw [hg]; exact (below_size (by repeat (first | (with_reducible first | exact HB.out | apply below_alloc | apply pw_below_drewN | apply below_drew1) | exact HB.out))) : w.heap.size ≤ gb171)); have n3_ := Aside0.mk ((by rw [hg]; exact (below_size (by repeat (first | (with_reducible first | exact HB.out | apply below_alloc | apply pw_below_drewN | apply below_drew1) | exact HB.out))) : w.heap.size ≤ gb171)); clear HB; have HB := n0_; have BK171 := n1_; have GW171 := n2_; have GE171 := n3_; clear n0_ n1_ n2_ n3_; clear hb hbox hg; have hcz42_0 : w41.cell? ⟨gb171, 0, none⟩ = some (.int .u64 0) := (blk_cell BK171.out 0).trans rfl; have hcz42_1 : w41.cell? ⟨gb171, 1, none⟩ = some (.int .u64 0) := (blk_cell BK171.out 1).trans rfl; have hcz42_2 : w41.cell? ⟨gb171, 2, none⟩ = some (.int .u8 0) := (blk_cell BK171.out 2).trans rfl; have hcz42_3 : w41.cell? ⟨gb171, 3, none⟩ = some (.int .u8 0) := (blk_cell BK171.out 3).trans rfl; have hcz42_4 : w41.cell? ⟨gb171, 4, none⟩ = some (.int .u8 0) := (blk_cell BK171.out 4).trans rfl; have hcz42_5 : w41.cell? ⟨gb171, 5, none⟩ = some (.int .u8 0) := (blk_cell BK171.out 5).trans rfl; have hcz42_6 : w41.cell? ⟨gb171, 6, none⟩ = some (.int .u8 0) := (blk_cell BK171.out 6).trans rfl; have hcz42_7 : w41.cell? ⟨gb171, 7, none⟩ = some (.int .u8 0) := (blk_cell BK171.out 7).trans rfl; have hcz42_8 : w41.cell? ⟨gb171, 8, none⟩ = some (.int .u8 0) := (blk_cell BK171.out 8).trans rfl; have hcz42_9 : w41.cell? ⟨gb171, 9, none⟩ = some (.int .u8 0) := (blk_cell BK171.out 9).trans rfl; have hcz42_10 : w41.cell? ⟨gb171, 10, none⟩ = some (.int .u8 0) := (blk_cell BK171.out 10).trans rfl; have hcz42_11 : w41.cell? ⟨gb171, 11, none⟩ = some (.int .u8 0) := (blk_cell BK171.out 11).trans rfl; have hcz42_12 : w41.cell? ⟨gb171, 12, none⟩ = some (.string (⟨#[]⟩ : ByteArray)) := (blk_cell BK171.out 12).trans rfl; have hfz42_0 := blk_frozen BK171.out 0; have hfz42_1 := blk_frozen BK171.out 1; have hfz42_2 := blk_frozen BK171.out 2; have hfz42_3 := blk_frozen BK171.out 3; have hfz42_4 := blk_frozen BK171.out 4; have hfz42_5 := blk_frozen BK171.out 5; have hfz42_6 := blk_frozen BK171.out 6; have hfz42_7 := blk_frozen BK171.out 7; have hfz42_8 := blk_frozen BK171.out 8; have hfz42_9 := blk_frozen BK171.out 9; have hfz42_10 := blk_frozen BK171.out 10; have hfz42_11 := blk_frozen BK171.out 11; have hfz42_12 := blk_frozen BK171.out 12) | ((with_reducible refine gate_callee (f := 13) rfl ?_); refine goesL_ (some 10) rfl rfl Try.func13 (by kernel_rfl) rfl #[.int .u8 13] rfl (by (try simp only [List.map_toArray, List.map_cons, List.map_nil]); first | done | rfl | (simp only [List.length_drop, List.length_take]; rfl)) ?_; (with_reducible refine (entry_Members.calls k 13 t172 _ A4.out).mono ?_); rintro e w43 ⟨v173, rfl, ho0, hb⟩; refine ⟨_, rfl, ?_⟩; have n0_ := Aside0.mk (Kd.R_lower ho0 (below_size (by repeat (first | (with_reducible first | exact HB.out | apply below_alloc | apply pw_below_drewN | apply below_drew1 | refine below_set ?_ GE171.out) | exact HB.out)))); have n1_ := Aside0.mk (blk_below (g := gb171) (o := .cells #[.int .u64 t157, .int .u64 t158, .int .u8 t159, .int .u8 t160, .int .u8 t161, .int .u8 t162, .int .u8 t163, .int .u8 t164, .int .u8 t165, .int .u8 t166, .int .u8 t167, .int .u8 t168, .string t169] 27 (0, 0)) (by (with_reducible repeat (first | refine blk_drewN ?_ _ | refine blk_drew ?_ | refine blk_alloc ?_ _)); refine blk_put (cs := #[.int .u64 t157, .int .u64 t158, .int .u8 t159, .int .u8 t160, .int .u8 t161, .int .u8 t162, .int .u8 t163, .int .u8 t164, .int .u8 t165, .int .u8 t166, .int .u8 t167, .int .u8 t168, .string (⟨#[]⟩ : ByteArray)]) ?_ 12 _ rfl; (with_reducible repeat (first | refine blk_drewN ?_ _ | refine blk_drew ?_ | refine blk_alloc ?_ _)); refine blk_put (cs := #[.int .u64 t157, .int .u64 t158, .int .u8 t159, .int .u8 t160, .int .u8 t161, .int .u8 t162, .int .u8 t163, .int .u8 t164, .int .u8 t165, .int .u8 t166, .int .u8 t167, .int .u8 0, .string (⟨#[]⟩ : ByteArray)]) ?_ 11 _ rfl; (with_reducible repeat (first | refine blk_drewN ?_ _ | refine blk_drew ?_ | refine blk_alloc ?_ _)); refine blk_put (cs := #[.int .u64 t157, .int .u64 t158, .int .u8 t159, .int .u8 t160, .int .u8 t161, .int .u8 t162, .int .u8 t163, .int .u8 t164, .int .u8 t165, .int .u8 t166, .int .u8 0, .int .u8 0, .string (⟨#[]⟩ : ByteArray)]) ?_ 10 _ rfl; (with_reducible repeat (first | refine blk_drewN ?_ _ | refine blk_drew ?_ | refine blk_alloc ?_ _)); refine blk_put (cs := #[.int .u64 t157, .int .u64 t158, .int .u8 t159, .int .u8 t160, .int .u8 t161, .int .u8 t162, .int .u8 t163, .int .u8 t164, .int .u8 t165, .int .u8 0, .int .u8 0, .int .u8 0, .string (⟨#[]⟩ : ByteArray)]) ?_ 9 _ rfl; (with_reducible repeat (first | refine blk_drewN ?_ _ | refine blk_drew ?_ | refine blk_alloc ?_ _)); refine blk_put (cs := #[.int .u64 t157, .int .u64 t158, .int .u8 t159, .int .u8 t160, .int .u8 t161, .int .u8 t162, .int .u8 t163, .int .u8 t164, .int .u8 0, .int .u8 0, .int .u8 0, .int .u8 0, .string (⟨#[]⟩ : ByteArray)]) ?_ 8 _ rfl; (with_reducible repeat (first | refine blk_drewN ?_ _ | refine blk_drew ?_ | refine blk_alloc ?_ _)); refine blk_put (cs := #[.int .u64 t157, .int .u64 t158, .int .u8 t159, .int .u8 t160, .int .u8 t161, .int .u8 t162, .int .u8 t163, .int .u8 0, .int .u8 0, .int .u8 0, .int .u8 0, .int .u8 0, .string (⟨#[]⟩ : ByteArray)]) ?_ 7 _ rfl; (with_reducible repeat (first | refine blk_drewN ?_ _ | refine blk_drew ?_ | refine blk_alloc ?_ _)); refine blk_put (cs := #[.int .u64 t157, .int .u64 t158, .int .u8 t159, .int .u8 t160, .int .u8 t161, .int .u8 t162, .int .u8 0, .int .u8 0, .int .u8 0, .int .u8 0, .int .u8 0, .int .u8 0, .string (⟨#[]⟩ : ByteArray)]) ?_ 6 _ rfl; (with_reducible repeat (first | refine blk_drewN ?_ _ | refine blk_drew ?_ | refine blk_alloc ?_ _)); refine blk_put (cs := #[.int .u64 t157, .int .u64 t158, .int .u8 t159, .int .u8 t160, .int .u8 t161, .int .u8 0, .int .u8 0, .int .u8 0, .int .u8 0, .int .u8 0, .int .u8 0, .int .u8 0, .string (⟨#[]⟩ : ByteArray)]) ?_ 5 _ rfl; (with_reducible repeat (first | refine blk_drewN ?_ _ | refine blk_drew ?_ | refine blk_alloc ?_ _)); refine blk_put (cs := #[.int .u64 t157, .int .u64 t158, .int .u8 t159, .int .u8 t160, .int .u8 0, .int .u8 0, .int .u8 0, .int .u8 0, .int .u8 0, .int .u8 0, .int .u8 0, .int .u8 0, .string (⟨#[]⟩ : ByteArray)]) ?_ 4 _ rfl; (with_reducible repeat (first | refine blk_drewN ?_ _ | refine blk_drew ?_ | refine blk_alloc ?_ _)); refine blk_put (cs := #[.int .u64 t157, .int .u64 t158, .int .u8 t159, .int .u8 0, .int .u8 0, .int .u8 0, .int .u8 0, .int .u8 0, .int .u8 0, .int .u8 0, .int .u8 0, .int .u8 0, .string (⟨#[]⟩ : ByteArray)]) ?_ 3 _ rfl; (with_reducible repeat (first | refine blk_drewN ?_ _ | refine blk_drew ?_ | refine blk_alloc ?_ _)); refine blk_put (cs := #[.int .u64 t157, .int .u64 t158, .int .u8 0, .int .u8 0, .int .u8 0, .int .u8 0, .int .u8 0, .int .u8 0, .int .u8 0, .int .u8 0, .int .u8 0, .int .u8 0, .string (⟨#[]⟩ : ByteArray)]) ?_ 2 _ rfl; (with_reducible repeat (first | refine blk_drewN ?_ _ | refine blk_drew ?_ | refine blk_alloc ?_ _)); refine blk_put (cs := #[.int .u64 t157, .int .u64 0, .int .u8 0, .int .u8 0, .int .u8 0, .int .u8 0, .int .u8 0, .int .u8 0, .int .u8 0, .int .u8 0, .int .u8 0, .int .u8 0, .string (⟨#[]⟩ : ByteArray)]) ?_ 1 _ rfl; (with_reducible repeat (first | refine blk_drewN ?_ _ | refine blk_drew ?_ | refine blk_alloc ?_ _)); refine blk_put (cs := #[.int .u64 0, .int .u64 0, .int .u8 0, .int .u8 0, .int .u8 0, .int .u8 0, .int .u8 0, .int .u8 0, .int .u8 0, .int .u8 0, .int .u8 0, .int .u8 0, .string (⟨#[]⟩ : ByteArray)]) ?_ 0 _ rfl; (with_reducible repeat (first | refine blk_drewN ?_ _ | refine blk_drew ?_ | refine blk_alloc ?_ _)); exact BK171.out) hb); have n2_ := Aside0.mk (below_step (by repeat (first | (with_reducible first | exact HB.out | apply below_alloc | apply pw_below_drewN | apply below_drew1 | refine below_set ?_ GE171.out) | exact HB.out)) hb); clear BK171; clear HB; have HO174 := n0_; have BK171 := n1_; have HB := n2_; clear n0_ n1_ n2_; (try clear hb); (try clear hb2); (try clear hk); (try clear hi); (try clear ho0)))
     have n0_ := Aside0.mk (Kd.R_drew HO174.out)
     have n1_ := Aside0.mk (blk_drew BK171.out)
     have n2_ := Aside0.mk (below_drew1 HB.out)
     clear HO174
     clear BK171
     clear HB
     have HO174 := n0_
     have BK171 := n1_
     have HB := n2_
     clear n0_ n1_ n2_
     obtain ⟨Ao48, co48, eo48⟩ := Kd.R_slice HO174.out
     (first | subst eo48 | (injection eo48 with f1_ f2_ f3_; have f4_ := f1_.symm; have f5_ := f3_.symm; clear f1_ f2_ f3_; subst f4_; subst f5_))
     refine start_ (n := 27) (S := fun w' => w'.cell? ⟨gb171, 0, none⟩ = some (.int .u64 t157) ∧ w'.cell? ⟨gb171, 1, none⟩ = some (.int .u64 t158) ∧ w'.cell? ⟨gb171, 2, none⟩ = some (.int .u8 t159) ∧ w'.cell? ⟨gb171, 3, none⟩ = some (.int .u8 t160) ∧ w'.cell? ⟨gb171, 4, none⟩ = some (.int .u8 t161) ∧ w'.cell? ⟨gb171, 5, none⟩ = some (.int .u8 t162) ∧ w'.cell? ⟨gb171, 6, none⟩ = some (.int .u8 t163) ∧ w'.cell? ⟨gb171, 7, none⟩ = some (.int .u8 t164) ∧ w'.cell? ⟨gb171, 8, none⟩ = some (.int .u8 t165) ∧ w'.cell? ⟨gb171, 9, none⟩ = some (.int .u8 t166) ∧ w'.cell? ⟨gb171, 10, none⟩ = some (.int .u8 t167) ∧ w'.cell? ⟨gb171, 11, none⟩ = some (.int .u8 t168) ∧ w'.cell? ⟨gb171, 12, none⟩ = some (.string t169)) (ds := []) #[false, false, false, false, false, false, false, false, false, false, false, false, false, false, false, false, false, false, false, false, false, false, false, false, false, false, false] (by kernel_rfl) rfl rfl ⟨(blk_cell BK171.out 0).trans rfl, (blk_cell BK171.out 1).trans rfl, (blk_cell BK171.out 2).trans rfl, (blk_cell BK171.out 3).trans rfl, (blk_cell BK171.out 4).trans rfl, (blk_cell BK171.out 5).trans rfl, (blk_cell BK171.out 6).trans rfl, (blk_cell BK171.out 7).trans rfl, (blk_cell BK171.out 8).trans rfl, (blk_cell BK171.out 9).trans rfl, (blk_cell BK171.out 10).trans rfl, (blk_cell BK171.out 11).trans rfl, (blk_cell BK171.out 12).trans rfl⟩ (fun hHeld => ?_); refine with_tabW wapentakelaw04_awake.tab3 wapentakelaw04_awake.bits3 (fun HT_ HW_ => ?_)
     generalize w43.drew = w44 at HO174 BK171 HB hHeld ⊢
     refine one_ (i := 0) (N := some 11) (bq_10_ 27 1) rfl rfl (one_of HT_.out (by kernel_rfl)) (by decide) (fun K hK => ?_)
     refine goes_ Try.func25 (by kernel_rfl) rfl #[] (by rfl) rfl rfl (by (try simp only [List.map_toArray, List.map_cons, List.map_nil]); first | done | rfl | (simp only [List.length_drop, List.length_take]; rfl)) ?_
     with_reducible refine (wapentakelaw04_some.calls  t175 t176 t177 t178 t179 t180 t181 t182 t183 t184 t185 t186 t187 _ A5.out).mono ?_
     rintro e w45 ⟨rfl, hb⟩
     refine ⟨_, rfl, ?_⟩
     have n0_ := Aside0.mk (Kd.R_below (by (with_reducible repeat (first | apply Kd.R_alloc | apply Kd.R_drewN | apply Kd.R_drew)); exact HO174.out) hb)
     have n1_ := Aside0.mk (blk_below (g := gb171) (o := .cells #[.int .u64 t157, .int .u64 t158, .int .u8 t159, .int .u8 t160, .int .u8 t161, .int .u8 t162, .int .u8 t163, .int .u8 t164, .int .u8 t165, .int .u8 t166, .int .u8 t167, .int .u8 t168, .string t169] 27 (0, 0)) (by (with_reducible repeat (first | refine blk_drewN ?_ _ | refine blk_drew ?_ | refine blk_alloc ?_ _)); exact BK171.out) hb)
     have n2_ := Aside0.mk (below_step (by repeat (first | (with_reducible first | exact HB.out | apply below_alloc | apply pw_below_drewN | apply below_drew1 | refine below_set ?_ GE171.out) | exact HB.out)) hb)
     clear HO174
     clear BK171
     clear HB
     have HO174 := n0_
     have BK171 := n1_
     have HB := n2_
     clear n0_ n1_ n2_
     (try clear hb)
     (try clear hb2)
     (try clear hk)
     (try clear hi)
     refine hK.out _ _ ⟨(blk_cell BK171.out 0).trans rfl, (blk_cell BK171.out 1).trans rfl, (blk_cell BK171.out 2).trans rfl, (blk_cell BK171.out 3).trans rfl, (blk_cell BK171.out 4).trans rfl, (blk_cell BK171.out 5).trans rfl, (blk_cell BK171.out 6).trans rfl, (blk_cell BK171.out 7).trans rfl, (blk_cell BK171.out 8).trans rfl, (blk_cell BK171.out 9).trans rfl, (blk_cell BK171.out 10).trans rfl, (blk_cell BK171.out 11).trans rfl, (blk_cell BK171.out 12).trans rfl⟩ (fun hHeld => ?_)
     clear hK K
     refine norm_ (a' := ?_) ?_ ?_
     rotate_left
     ·show Act.put _ (some 11) _ = _
      simp only [Act.put, zA10_, zB10_, zC10_, i64_w, i32_w]
      rfl
     refine one_ (i := 1) (N := some 12) (bq_10_ 27 3) rfl rfl (one_of HT_.out (by kernel_rfl)) (by decide) (fun K hK => ?_)
     refine goes_ Try.func9 (by kernel_rfl) rfl #[.agg #[.int .u64 t175, .int .u64 t176, .int .u8 t177, .int .u8 t178, .int .u8 t179, .int .u8 t180, .int .u8 t181, .int .u8 t182, .int .u8 t183, .int .u8 t184, .int .u8 t185, .int .u8 t186, .string t187]] (by rfl) rfl rfl (by (try simp only [List.map_toArray, List.map_cons, List.map_nil]); first | done | rfl | (simp only [List.length_drop, List.length_take]; rfl)) ?_
     with_reducible refine (entry_Write.calls k t175 t176 t177 t178 t179 t180 t181 t182 t183 t184 t185 t186 t187 t188 _ A6.out).mono ?_
     rintro e w46 ⟨rfl, hb⟩
     refine ⟨_, rfl, ?_⟩
     have n0_ := Aside0.mk (Kd.R_below (by (with_reducible repeat (first | apply Kd.R_alloc | apply Kd.R_drewN | apply Kd.R_drew)); exact HO174.out) hb)
     have n1_ := Aside0.mk (blk_below (g := gb171) (o := .cells #[.int .u64 t157, .int .u64 t158, .int .u8 t159, .int .u8 t160, .int .u8 t161, .int .u8 t162, .int .u8 t163, .int .u8 t164, .int .u8 t165, .int .u8 t166, .int .u8 t167, .int .u8 t168, .string t169] 27 (0, 0)) (by (with_reducible repeat (first | refine blk_drewN ?_ _ | refine blk_drew ?_ | refine blk_alloc ?_ _)); exact BK171.out) hb)
     have n2_ := Aside0.mk (below_step (by repeat (first | (with_reducible first | exact HB.out | apply below_alloc | apply pw_below_drewN | apply below_drew1 | refine below_set ?_ GE171.out) | exact HB.out)) hb)
     clear HO174
     clear BK171
     clear HB
     have HO174 := n0_
     have BK171 := n1_
     have HB := n2_
     clear n0_ n1_ n2_
     (try clear hb)
     (try clear hb2)
     (try clear hk)
     (try clear hi)
     refine hK.out _ _ ⟨(blk_cell BK171.out 0).trans rfl, (blk_cell BK171.out 1).trans rfl, (blk_cell BK171.out 2).trans rfl, (blk_cell BK171.out 3).trans rfl, (blk_cell BK171.out 4).trans rfl, (blk_cell BK171.out 5).trans rfl, (blk_cell BK171.out 6).trans rfl, (blk_cell BK171.out 7).trans rfl, (blk_cell BK171.out 8).trans rfl, (blk_cell BK171.out 9).trans rfl, (blk_cell BK171.out 10).trans rfl, (blk_cell BK171.out 11).trans rfl, (blk_cell BK171.out 12).trans rfl⟩ (fun hHeld => ?_)
     clear hK K
     refine norm_ (a' := ?_) ?_ ?_
     rotate_left
     ·show Act.put _ (some 12) _ = _
      simp only [Act.put, zA10_, zB10_, zC10_, i64_w, i32_w]
      rfl
     refine pure_ (i := 2) (N := some 13) (v := ?_) (a' := ?_) (bq_10_ 27 7) rfl rfl (any_of HT_.out (by kernel_rfl)) (fun _ _ _ h => h) (Or.inl ⟨by rfl, ?_⟩) ?_ ?_
     rotate_left
     ·intro w'
      go_simp
      with_reducible rfl
     rotate_left
     ·simp only [Act.put, zA10_, zB10_, zC10_, i64_w, i32_w]
      rfl
     refine pure_ (i := 3) (N := some 14) (v := ?_) (a' := ?_) (bq_10_ 27 15) rfl rfl (any_of HT_.out (by kernel_rfl)) (fun _ _ _ h => h) (Or.inl ⟨by rfl, ?_⟩) ?_ ?_
     rotate_left
     ·intro w'
      go_simp
      with_reducible rfl
     rotate_left
     ·simp only [Act.put, zA10_, zB10_, zC10_, i64_w, i32_w]
      rfl
     refine pure_ (i := 4) (N := some 15) (v := ?_) (a' := ?_) (bq_10_ 27 31) rfl rfl (any_of HT_.out (by kernel_rfl)) (fun _ _ _ h => h) (Or.inl ⟨by rfl, ?_⟩) ?_ ?_
     rotate_left
     ·intro w'
      go_simp
      with_reducible rfl
     rotate_left
     ·simp only [Act.put, zA10_, zB10_, zC10_, i64_w, i32_w]
      rfl
     refine pure_ (i := 5) (N := some 16) (v := ?_) (a' := ?_) (bq_10_ 27 63) rfl rfl (any_of HT_.out (by kernel_rfl)) (fun _ _ _ h => h) (Or.inl ⟨by rfl, ?_⟩) ?_ ?_
     rotate_left
     ·intro w'
      go_simp
      with_reducible rfl
     rotate_left
     ·simp only [Act.put, zA10_, zB10_, zC10_, i64_w, i32_w]
      rfl
     refine pure_ (i := 6) (N := some 17) (v := ?_) (a' := ?_) (bq_10_ 27 127) rfl rfl (any_of HT_.out (by kernel_rfl)) (fun _ _ _ h => h) (Or.inl ⟨by rfl, ?_⟩) ?_ ?_
     rotate_left
     ·intro w'
      go_simp
      with_reducible rfl
     rotate_left
     ·simp only [Act.put, zA10_, zB10_, zC10_, i64_w, i32_w]
      rfl
     refine take_ (i := 7) (N := some 18) (v := ?_) (a' := ?_) (bq_10_ 27 255) rfl rfl (take_ofW HT_.out HW_.out (by kernel_rfl)) (fun _ _ _ h => h) (Or.inl ⟨by rfl, ?_⟩) hHeld ?_ ?_
     rotate_left
     ·rintro w' ⟨s0, s1, s2, s3, s4, s5, s6, s7, s8, s9, s10, s11, s12⟩
      go_simp
      with_reducible rfl
     rotate_left
     ·simp only [Act.put, zA10_, zB10_, zC10_, i64_w, i32_w]
      rfl
     refine one_ (i := 8) (N := some 19) (bq_10_ 27 511) rfl rfl (one_of HT_.out (by kernel_rfl)) (by decide) (fun K hK => ?_)
     refine goes_ Try.func25 (by kernel_rfl) rfl #[] (by rfl) rfl rfl (by (try simp only [List.map_toArray, List.map_cons, List.map_nil]); first | done | rfl | (simp only [List.length_drop, List.length_take]; rfl)) ?_
     with_reducible refine (wapentakelaw04_some.calls  t189 t190 t191 t192 t193 t194 t195 t196 t197 t198 t199 t200 t201 _ A9.out).mono ?_
     rintro e w47 ⟨rfl, hb⟩
     refine ⟨_, rfl, ?_⟩
     have n0_ := Aside0.mk (Kd.R_below (by (with_reducible repeat (first | apply Kd.R_alloc | apply Kd.R_drewN | apply Kd.R_drew)); exact HO174.out) hb)
     have n1_ := Aside0.mk (blk_below (g := gb171) (o := .cells #[.int .u64 t157, .int .u64 t158, .int .u8 t159, .int .u8 t160, .int .u8 t161, .int .u8 t162, .int .u8 t163, .int .u8 t164, .int .u8 t165, .int .u8 t166, .int .u8 t167, .int .u8 t168, .string t169] 27 (0, 0)) (by (with_reducible repeat (first | refine blk_drewN ?_ _ | refine blk_drew ?_ | refine blk_alloc ?_ _)); exact BK171.out) hb)
     have n2_ := Aside0.mk (below_step (by repeat (first | (with_reducible first | exact HB.out | apply below_alloc | apply pw_below_drewN | apply below_drew1 | refine below_set ?_ GE171.out) | exact HB.out)) hb)
     clear HO174
     clear BK171
     clear HB
     have HO174 := n0_
     have BK171 := n1_
     have HB := n2_
     clear n0_ n1_ n2_
     (try clear hb)
     (try clear hb2)
     (try clear hk)
     (try clear hi)
     refine hK.out _ _ ⟨(blk_cell BK171.out 0).trans rfl, (blk_cell BK171.out 1).trans rfl, (blk_cell BK171.out 2).trans rfl, (blk_cell BK171.out 3).trans rfl, (blk_cell BK171.out 4).trans rfl, (blk_cell BK171.out 5).trans rfl, (blk_cell BK171.out 6).trans rfl, (blk_cell BK171.out 7).trans rfl, (blk_cell BK171.out 8).trans rfl, (blk_cell BK171.out 9).trans rfl, (blk_cell BK171.out 10).trans rfl, (blk_cell BK171.out 11).trans rfl, (blk_cell BK171.out 12).trans rfl⟩ (fun hHeld => ?_)
     clear hK K
     refine norm_ (a' := ?_) ?_ ?_
     rotate_left
     ·show Act.put _ (some 19) _ = _
      simp only [Act.put, zA10_, zB10_, zC10_, i64_w, i32_w]
      rfl
     refine pure_ (i := 9) (N := some 20) (v := ?_) (a' := ?_) (bq_10_ 27 1023) rfl rfl (any_of HT_.out (by kernel_rfl)) (fun _ _ _ h => h) (Or.inl ⟨by rfl, ?_⟩) ?_ ?_
     rotate_left
     ·intro w'
      go_simp
      with_reducible rfl
     rotate_left
     ·simp only [Act.put, zA10_, zB10_, zC10_, i64_w, i32_w]
      rfl
     refine pure_ (i := 10) (N := some 21) (v := ?_) (a' := ?_) (bq_10_ 27 2047) rfl rfl (any_of HT_.out (by kernel_rfl)) (fun _ _ _ h => h) (Or.inl ⟨by rfl, ?_⟩) ?_ ?_
     rotate_left
     ·intro w'
      go_simp
      with_reducible rfl
     rotate_left
     ·simp only [Act.put, zA10_, zB10_, zC10_, i64_w, i32_w]
      rfl
     refine pure_ (i := 11) (N := some 22) (v := ?_) (a' := ?_) (bq_10_ 27 4095) rfl rfl (any_of HT_.out (by kernel_rfl)) (fun _ _ _ h => h) (Or.inl ⟨by rfl, ?_⟩) ?_ ?_
     rotate_left
     ·intro w'
      go_simp
      with_reducible rfl
     rotate_left
     ·simp only [Act.put, zA10_, zB10_, zC10_, i64_w, i32_w]
      rfl
     refine pure_ (i := 12) (N := some 23) (v := ?_) (a' := ?_) (bq_10_ 27 8191) rfl rfl (any_of HT_.out (by kernel_rfl)) (fun _ _ _ h => h) (Or.inl ⟨by rfl, ?_⟩) ?_ ?_
     rotate_left
     ·intro w'
      go_simp
      with_reducible rfl
     rotate_left
     ·simp only [Act.put, zA10_, zB10_, zC10_, i64_w, i32_w]
      rfl
     refine pure_ (i := 13) (N := some 24) (v := ?_) (a' := ?_) (bq_10_ 27 16383) rfl rfl (any_of HT_.out (by kernel_rfl)) (fun _ _ _ h => h) (Or.inl ⟨by rfl, ?_⟩) ?_ ?_
     rotate_left
     ·intro w'
      go_simp
      with_reducible rfl
     rotate_left
     ·simp only [Act.put, zA10_, zB10_, zC10_, i64_w, i32_w]
      rfl
     refine pure_ (i := 14) (N := some 25) (v := ?_) (a' := ?_) (bq_10_ 27 32767) rfl rfl (any_of HT_.out (by kernel_rfl)) (fun _ _ _ h => h) (Or.inl ⟨by rfl, ?_⟩) ?_ ?_
     rotate_left
     ·intro w'
      go_simp
      with_reducible rfl
     rotate_left
     ·simp only [Act.put, zA10_, zB10_, zC10_, i64_w, i32_w]
      rfl
     refine pure_ (i := 15) (N := some 26) (v := ?_) (a' := ?_) (bq_10_ 27 65535) rfl rfl (any_of HT_.out (by kernel_rfl)) (fun _ _ _ h => h) (Or.inl ⟨by rfl, ?_⟩) ?_ ?_
     rotate_left
     ·intro w'
      go_simp
      with_reducible rfl
     rotate_left
     ·simp only [Act.put, zA10_, zB10_, zC10_, i64_w, i32_w]
      rfl
     refine pure_ (i := 16) (N := some 27) (v := ?_) (a' := ?_) (bq_10_ 27 131071) rfl rfl (any_of HT_.out (by kernel_rfl)) (fun _ _ _ h => h) (Or.inl ⟨by rfl, ?_⟩) ?_ ?_
     rotate_left
     ·intro w'
      go_simp
      with_reducible rfl
     rotate_left
     ·simp only [Act.put, zA10_, zB10_, zC10_, i64_w, i32_w]
      rfl
     refine pure_ (i := 17) (N := some 28) (v := undef) (a' := ?_) (bq_10_ 27 262143) rfl rfl (any_of HT_.out (by kernel_rfl)) (fun _ _ _ h => h) (Or.inr ⟨by rfl, rfl⟩) ?_ ?_
     rotate_left
     ·simp only [Act.put, zA10_, zB10_, zC10_, i64_w, i32_w]
      rfl
     refine pure_ (i := 18) (N := some 29) (v := undef) (a' := ?_) (bq_10_ 27 524287) rfl rfl (any_of HT_.out (by kernel_rfl)) (fun _ _ _ h => h) (Or.inr ⟨by rfl, rfl⟩) ?_ ?_
     rotate_left
     ·simp only [Act.put, zA10_, zB10_, zC10_, i64_w, i32_w]
      rfl
     refine pure_ (i := 19) (N := some 30) (v := undef) (a' := ?_) (bq_10_ 27 1048575) rfl rfl (any_of HT_.out (by kernel_rfl)) (fun _ _ _ h => h) (Or.inr ⟨by rfl, rfl⟩) ?_ ?_
     rotate_left
     ·simp only [Act.put, zA10_, zB10_, zC10_, i64_w, i32_w]
      rfl
     refine pure_ (i := 20) (N := some 31) (v := undef) (a' := ?_) (bq_10_ 27 2097151) rfl rfl (any_of HT_.out (by kernel_rfl)) (fun _ _ _ h => h) (Or.inr ⟨by rfl, rfl⟩) ?_ ?_
     rotate_left
     ·simp only [Act.put, zA10_, zB10_, zC10_, i64_w, i32_w]
      rfl
     refine pure_ (i := 21) (N := some 32) (v := ?_) (a' := ?_) (bq_10_ 27 4194303) rfl rfl (any_of HT_.out (by kernel_rfl)) (fun _ _ _ h => h) (Or.inl ⟨by rfl, ?_⟩) ?_ ?_
     rotate_left
     ·intro w'
      go_simp
      with_reducible rfl
     rotate_left
     ·simp only [Act.put, zA10_, zB10_, zC10_, i64_w, i32_w]
      rfl
     refine pure_ (i := 22) (N := some 33) (v := ?_) (a' := ?_) (bq_10_ 27 8388607) rfl rfl (any_of HT_.out (by kernel_rfl)) (fun _ _ _ h => h) (Or.inl ⟨by rfl, ?_⟩) ?_ ?_
     rotate_left
     ·intro w'
      go_simp
      with_reducible rfl
     rotate_left
     ·simp only [Act.put, zA10_, zB10_, zC10_, i64_w, i32_w]
      rfl
     refine pure_ (i := 23) (N := some 34) (v := undef) (a' := ?_) (bq_10_ 27 16777215) rfl rfl (any_of HT_.out (by kernel_rfl)) (fun _ _ _ h => h) (Or.inr ⟨by rfl, rfl⟩) ?_ ?_
     rotate_left
     ·simp only [Act.put, zA10_, zB10_, zC10_, i64_w, i32_w]
      rfl
     refine pure_ (i := 24) (N := some 35) (v := undef) (a' := ?_) (bq_10_ 27 33554431) rfl rfl (any_of HT_.out (by kernel_rfl)) (fun _ _ _ h => h) (Or.inr ⟨by rfl, rfl⟩) ?_ ?_
     rotate_left
     ·simp only [Act.put, zA10_, zB10_, zC10_, i64_w, i32_w]
      rfl
     refine pure_ (i := 25) (N := some 36) (v := ?_) (a' := ?_) (bq_10_ 27 67108863) rfl rfl (any_of HT_.out (by kernel_rfl)) (fun _ _ _ h => h) (Or.inl ⟨by rfl, ?_⟩) ?_ ?_
     rotate_left
     ·intro w'
      go_simp
      with_reducible rfl
     rotate_left
     ·simp only [Act.put, zA10_, zB10_, zC10_, i64_w, i32_w]
      rfl
     refine pure_ (i := 26) (N := some 0) (v := ?_) (a' := ?_) (bq_10_ 27 134217727) rfl rfl (any_of HT_.out (by kernel_rfl)) (fun _ _ _ h => h) (Or.inl ⟨by rfl, ?_⟩) ?_ ?_
     rotate_left
     ·intro w'
      go_simp
      with_reducible rfl
     rotate_left
     ·simp only [Act.put, zA10_, zB10_, zC10_, i64_w, i32_w]
      rfl
     refine done_ (done_of HT_.out (by kernel_rfl)) ?_
     try go_wp2
     go_ret
     exact ⟨by first | rfl | (simp [errW_none, errW_some] <;> rfl) | (simp [*, errW_none, errW_some] <;> rfl), by repeat (first | (with_reducible first | exact HB.out | apply below_alloc | apply pw_below_drewN | apply below_drew1 | refine below_set ?_ GE171.out) | exact HB.out)⟩
   ·rw [if_neg c10] at H
    have c10b0 : (t157 == t189 && (t158 == t190 && (t159 == t191 && (t160 == t192 && ((t161 == t193 && (t162 == t194 && (t163 == t195 && (t164 == t196 && (t165 == t197 && (t166 == t198 && (t167 == t199 && (t168 == t200)))))))) && (t169.toList == t201.toList)))))) = false := by simpa using c10
    (try (have c10b1 : decide (t157 = t189 && (t158 == t190 && (t159 == t191 && (t160 == t192 && ((t161 == t193 && (t162 == t194 && (t163 == t195 && (t164 == t196 && (t165 == t197 && (t166 == t198 && (t167 == t199 && (t168 == t200)))))))) && (t169.toList == t201.toList)))))) = false := by simpa using c10))
    (try (have c10b2 : (t157 == t189 && (t158 == t190 && (t159 == t191 && (t160 == t192 && ((t161 == t193 && (t162 == t194 && (t163 == t195 && (t164 == t196 && (t165 == t197 && (t166 == t198 && (t167 == t199 && (t168 == t200)))))))) && (t169.toList == t201.toList)))))) = false := by simpa using c10))
    (try (have c10b3 : ¬ (t157 = t189 && (t158 == t190 && (t159 == t191 && (t160 == t192 && ((t161 == t193 && (t162 == t194 && (t163 == t195 && (t164 == t196 && (t165 == t197 && (t166 == t198 && (t167 == t199 && (t168 == t200)))))))) && (t169.toList == t201.toList)))))) := by simpa using c10))
    clear c10
    obtain rfl := Option.some.inj H
    go_enter Try.func14, Try.ntmps14
    try go_wp2_with (first | ((with_reducible refine gate_callee (f := 25) rfl ?_); refine goesL_ (some 5) rfl rfl Try.func25 (by kernel_rfl) rfl #[] rfl (by (try simp only [List.map_toArray, List.map_cons, List.map_nil]); first | done | rfl | (simp only [List.length_drop, List.length_take]; rfl)) ?_; (with_reducible refine (wapentakelaw04_some.calls  t143 t144 t145 t146 t147 t148 t149 t150 t151 t152 t153 t154 t155 _ A1.out).mono ?_); rintro e w49 ⟨rfl, hb⟩; refine ⟨_, rfl, ?_⟩; have n0_ := Aside0.mk (below_step (by repeat (first | (with_reducible first | exact HB.out | apply below_alloc | apply pw_below_drewN | apply below_drew1) | exact HB.out)) hb); clear HB; have HB := n0_; clear n0_; (try clear hb); (try clear hb2); (try clear hk); (try clear hi)) | ((with_reducible refine gate_callee (f := 9) rfl ?_); refine goesL_ (some 6) rfl rfl Try.func9 (by kernel_rfl) rfl #[.agg #[.int .u64 t143, .int .u64 t144, .int .u8 t145, .int .u8 t146, .int .u8 t147, .int .u8 t148, .int .u8 t149, .int .u8 t150, .int .u8 t151, .int .u8 t152, .int .u8 t153, .int .u8 t154, .string t155]] rfl (by (try simp only [List.map_toArray, List.map_cons, List.map_nil]); first | done | rfl | (simp only [List.length_drop, List.length_take]; rfl)) ?_; (with_reducible refine (entry_Write.calls k t143 t144 t145 t146 t147 t148 t149 t150 t151 t152 t153 t154 t155 t156 _ A2.out).mono ?_); rintro e w50 ⟨rfl, hb⟩; refine ⟨_, rfl, ?_⟩; have n0_ := Aside0.mk (below_step (by repeat (first | (with_reducible first | exact HB.out | apply below_alloc | apply pw_below_drewN | apply below_drew1) | exact HB.out)) hb); clear HB; have HB := n0_; clear n0_; (try clear hb); (try clear hb2); (try clear hk); (try clear hi)) | ((with_reducible refine gate_callee (f := 11) rfl ?_); refine goesL_ (some 7) rfl rfl Try.func11 (by kernel_rfl) rfl #[.string t156] rfl (by (try simp only [List.map_toArray, List.map_cons, List.map_nil]); first | done | rfl | (simp only [List.length_drop, List.length_take]; rfl)) ?_; (with_reducible refine (entry_Read.calls k t156 t157 t158 t159 t160 t161 t162 t163 t164 t165 t166 t167 t168 t169 true _ A3.out).mono ?_); rintro e w51 ⟨rfl, hb⟩; refine ⟨_, rfl, ?_⟩; have n0_ := Aside0.mk (below_step (by repeat (first | (with_reducible first | exact HB.out | apply below_alloc | apply pw_below_drewN | apply below_drew1) | exact HB.out)) hb); clear HB; have HB := n0_; clear n0_; (try clear hb); (try clear hb2); (try clear hk); (try clear hi)) | ((with_reducible refine gate_dst (N := 1) rfl ?_); (try (refine gate_guard (by rfl) ?_; dsimp only)); refine box_event ?hg (N := 1) ?hd (cs := #[.int .u64 0, .int .u64 0, .int .u8 0, .int .u8 0, .int .u8 0, .int .u8 0, .int .u8 0, .int .u8 0, .int .u8 0, .int .u8 0, .int .u8 0, .int .u8 0, .string (⟨#[]⟩ : ByteArray)]) (t := 27) ?hr ?_; (case hd => rfl); (case hg => rfl); (case hr => first | (go_simp; done) | (go_simp; rfl)); intro gb171 hg w52 hbox hb; have n0_ := Aside0.mk (below_step (by repeat (first | (with_reducible first | exact HB.out | apply below_alloc | apply pw_below_drewN | apply below_drew1) | exact HB.out)) hb); have n1_ := Aside0.mk (hbox); have n2_ := Aside0.mk ((by rw [hg]; exact (below_size (by repeat (first | (with_reducible first | exact HB.out | apply below_alloc | apply pw_below_drewN | apply below_drew1) | exact HB.out))) : w.heap.size ≤ gb171)); have n3_ := Aside0.mk ((by rw [hg]; exact (below_size (by repeat (first | (with_reducible first | exact HB.out | apply below_alloc | apply pw_below_drewN | apply below_drew1) | exact HB.out))) : w.heap.size ≤ gb171)); clear HB; have HB := n0_; have BK171 := n1_; have GW171 := n2_; have GE171 := n3_; clear n0_ n1_ n2_ n3_; clear hb hbox hg; have hcz53_0 : w52.cell? ⟨gb171, 0, none⟩ = some (.int .u64 0) := (blk_cell BK171.out 0).trans rfl; have hcz53_1 : w52.cell? ⟨gb171, 1, none⟩ = some (.int .u64 0) := (blk_cell BK171.out 1).trans rfl; have hcz53_2 : w52.cell? ⟨gb171, 2, none⟩ = some (.int .u8 0) := (blk_cell BK171.out 2).trans rfl; have hcz53_3 : w52.cell? ⟨gb171, 3, none⟩ = some (.int .u8 0) := (blk_cell BK171.out 3).trans rfl; have hcz53_4 : w52.cell? ⟨gb171, 4, none⟩ = some (.int .u8 0) := (blk_cell BK171.out 4).trans rfl; have hcz53_5 : w52.cell? ⟨gb171, 5, none⟩ = some (.int .u8 0) := (blk_cell BK171.out 5).trans rfl; have hcz53_6 : w52.cell? ⟨gb171, 6, none⟩ = some (.int .u8 0) := (blk_cell BK171.out 6).trans rfl; have hcz53_7 : w52.cell? ⟨gb171, 7, none⟩ = some (.int .u8 0) := (blk_cell BK171.out 7).trans rfl; have hcz53_8 : w52.cell? ⟨gb171, 8, none⟩ = some (.int .u8 0) := (blk_cell BK171.out 8).trans rfl; have hcz53_9 : w52.cell? ⟨gb171, 9, none⟩ = some (.int .u8 0) := (blk_cell BK171.out 9).trans rfl; have hcz53_10 : w52.cell? ⟨gb171, 10, none⟩ = some (.int .u8 0) := (blk_cell BK171.out 10).trans rfl; have hcz53_11 : w52.cell? ⟨gb171, 11, none⟩ = some (.int .u8 0) := (blk_cell BK171.out 11).trans rfl; have hcz53_12 : w52.cell? ⟨gb171, 12, none⟩ = some (.string (⟨#[]⟩ : ByteArray)) := (blk_cell BK171.out 12).trans rfl; have hfz53_0 := blk_frozen BK171.out 0; have hfz53_1 := blk_frozen BK171.out 1; have hfz53_2 := blk_frozen BK171.out 2; have hfz53_3 := blk_frozen BK171.out 3; have hfz53_4 := blk_frozen BK171.out 4; have hfz53_5 := blk_frozen BK171.out 5; have hfz53_6 := blk_frozen BK171.out 6; have hfz53_7 := blk_frozen BK171.out 7; have hfz53_8 := blk_frozen BK171.out 8; have hfz53_9 := blk_frozen BK171.out 9; have hfz53_10 := blk_frozen BK171.out 10; have hfz53_11 := blk_frozen BK171.out 11; have hfz53_12 := blk_frozen BK171.out 12) | ((with_reducible refine gate_callee (f := 13) rfl ?_); refine goesL_ (some 10) rfl rfl Try.func13 (by kernel_rfl) rfl #[.int .u8 13] rfl (by (try simp only [List.map_toArray, List.map_cons, List.map_nil]); first | done | rfl | (simp only [List.length_drop, List.length_take]; rfl)) ?_; (with_reducible refine (entry_Members.calls k 13 t172 _ A4.out).mono ?_); rintro e w54 ⟨v173, rfl, ho0, hb⟩; refine ⟨_, rfl, ?_⟩; have n0_ := Aside0.mk (Kd.R_lower ho0 (below_size (by repeat (first | (with_reducible first | exact HB.out | apply below_alloc | apply pw_below_drewN | apply below_drew1 | refine below_set ?_ GE171.out) | exact HB.out)))); have n1_ := Aside0.mk (blk_below (g := gb171) (o := .cells #[.int .u64 t157, .int .u64 t158, .int .u8 t159, .int .u8 t160, .int .u8 t161, .int .u8 t162, .int .u8 t163, .int .u8 t164, .int .u8 t165, .int .u8 t166, .int .u8 t167, .int .u8 t168, .string t169] 27 (0, 0)) (by (with_reducible repeat (first | refine blk_drewN ?_ _ | refine blk_drew ?_ | refine blk_alloc ?_ _)); refine blk_put (cs := #[.int .u64 t157, .int .u64 t158, .int .u8 t159, .int .u8 t160, .int .u8 t161, .int .u8 t162, .int .u8 t163, .int .u8 t164, .int .u8 t165, .int .u8 t166, .int .u8 t167, .int .u8 t168, .string (⟨#[]⟩ : ByteArray)]) ?_ 12 _ rfl; (with_reducible repeat (first | refine blk_drewN ?_ _ | refine blk_drew ?_ | refine blk_alloc ?_ _)); refine blk_put (cs := #[.int .u64 t157, .int .u64 t158, .int .u8 t159, .int .u8 t160, .int .u8 t161, .int .u8 t162, .int .u8 t163, .int .u8 t164, .int .u8 t165, .int .u8 t166, .int .u8 t167, .int .u8 0, .string (⟨#[]⟩ : ByteArray)]) ?_ 11 _ rfl; (with_reducible repeat (first | refine blk_drewN ?_ _ | refine blk_drew ?_ | refine blk_alloc ?_ _)); refine blk_put (cs := #[.int .u64 t157, .int .u64 t158, .int .u8 t159, .int .u8 t160, .int .u8 t161, .int .u8 t162, .int .u8 t163, .int .u8 t164, .int .u8 t165, .int .u8 t166, .int .u8 0, .int .u8 0, .string (⟨#[]⟩ : ByteArray)]) ?_ 10 _ rfl; (with_reducible repeat (first | refine blk_drewN ?_ _ | refine blk_drew ?_ | refine blk_alloc ?_ _)); refine blk_put (cs := #[.int .u64 t157, .int .u64 t158, .int .u8 t159, .int .u8 t160, .int .u8 t161, .int .u8 t162, .int .u8 t163, .int .u8 t164, .int .u8 t165, .int .u8 0, .int .u8 0, .int .u8 0, .string (⟨#[]⟩ : ByteArray)]) ?_ 9 _ rfl; (with_reducible repeat (first | refine blk_drewN ?_ _ | refine blk_drew ?_ | refine blk_alloc ?_ _)); refine blk_put (cs := #[.int .u64 t157, .int .u64 t158, .int .u8 t159, .int .u8 t160, .int .u8 t161, .int .u8 t162, .int .u8 t163, .int .u8 t164, .int .u8 0, .int .u8 0, .int .u8 0, .int .u8 0, .string (⟨#[]⟩ : ByteArray)]) ?_ 8 _ rfl; (with_reducible repeat (first | refine blk_drewN ?_ _ | refine blk_drew ?_ | refine blk_alloc ?_ _)); refine blk_put (cs := #[.int .u64 t157, .int .u64 t158, .int .u8 t159, .int .u8 t160, .int .u8 t161, .int .u8 t162, .int .u8 t163, .int .u8 0, .int .u8 0, .int .u8 0, .int .u8 0, .int .u8 0, .string (⟨#[]⟩ : ByteArray)]) ?_ 7 _ rfl; (with_reducible repeat (first | refine blk_drewN ?_ _ | refine blk_drew ?_ | refine blk_alloc ?_ _)); refine blk_put (cs := #[.int .u64 t157, .int .u64 t158, .int .u8 t159, .int .u8 t160, .int .u8 t161, .int .u8 t162, .int .u8 0, .int .u8 0, .int .u8 0, .int .u8 0, .int .u8 0, .int .u8 0, .string (⟨#[]⟩ : ByteArray)]) ?_ 6 _ rfl; (with_reducible repeat (first | refine blk_drewN ?_ _ | refine blk_drew ?_ | refine blk_alloc ?_ _)); refine blk_put (cs := #[.int .u64 t157, .int .u64 t158, .int .u8 t159, .int .u8 t160, .int .u8 t161, .int .u8 0, .int .u8 0, .int .u8 0, .int .u8 0, .int .u8 0, .int .u8 0, .int .u8 0, .string (⟨#[]⟩ : ByteArray)]) ?_ 5 _ rfl; (with_reducible repeat (first | refine blk_drewN ?_ _ | refine blk_drew ?_ | refine blk_alloc ?_ _)); refine blk_put (cs := #[.int .u64 t157, .int .u64 t158, .int .u8 t159, .int .u8 t160, .int .u8 0, .int .u8 0, .int .u8 0, .int .u8 0, .int .u8 0, .int .u8 0, .int .u8 0, .int .u8 0, .string (⟨#[]⟩ : ByteArray)]) ?_ 4 _ rfl; (with_reducible repeat (first | refine blk_drewN ?_ _ | refine blk_drew ?_ | refine blk_alloc ?_ _)); refine blk_put (cs := #[.int .u64 t157, .int .u64 t158, .int .u8 t159, .int .u8 0, .int .u8 0, .int .u8 0, .int .u8 0, .int .u8 0, .int .u8 0, .int .u8 0, .int .u8 0, .int .u8 0, .string (⟨#[]⟩ : ByteArray)]) ?_ 3 _ rfl; (with_reducible repeat (first | refine blk_drewN ?_ _ | refine blk_drew ?_ | refine blk_alloc ?_ _)); refine blk_put (cs := #[.int .u64 t157, .int .u64 t158, .int .u8 0, .int .u8 0, .int .u8 0, .int .u8 0, .int .u8 0, .int .u8 0, .int .u8 0, .int .u8 0, .int .u8 0, .int .u8 0, .string (⟨#[]⟩ : ByteArray)]) ?_ 2 _ rfl; (with_reducible repeat (first | refine blk_drewN ?_ _ | refine blk_drew ?_ | refine blk_alloc ?_ _)); refine blk_put (cs := #[.int .u64 t157, .int .u64 0, .int .u8 0, .int .u8 0, .int .u8 0, .int .u8 0, .int .u8 0, .int .u8 0, .int .u8 0, .int .u8 0, .int .u8 0, .int .u8 0, .string (⟨#[]⟩ : ByteArray)]) ?_ 1 _ rfl; (with_reducible repeat (first | refine blk_drewN ?_ _ | refine blk_drew ?_ | refine blk_alloc ?_ _)); refine blk_put (cs := #[.int .u64 0, .int .u64 0, .int .u8 0, .int .u8 0, .int .u8 0, .int .u8 0, .int .u8 0, .int .u8 0, .int .u8 0, .int .u8 0, .int .u8 0, .int .u8 0, .string (⟨#[]⟩ : ByteArray)]) ?_ 0 _ rfl; (with_reducible repeat (first | refine blk_drewN ?_ _ | refine blk_drew ?_ | refine blk_alloc ?_ _)); exact BK171.out) hb); have n2_ := Aside0.mk (below_step (by repeat (first | (with_reducible first | exact HB.out | apply below_alloc | apply pw_below_drewN | apply below_drew1 | refine below_set ?_ GE171.out) | exact HB.out)) hb); clear BK171; clear HB; have HO174 := n0_; have BK171 := n1_; have HB := n2_; clear n0_ n1_ n2_; (try clear hb); (try clear hb2); (try clear hk); (try clear hi); (try clear ho0)))
    have n0_ := Aside0.mk (Kd.R_drew HO174.out)
    have n1_ := Aside0.mk (blk_drew BK171.out)
    have n2_ := Aside0.mk (below_drew1 HB.out)
    clear HO174
    clear BK171
    clear HB
    have HO174 := n0_
    have BK171 := n1_
    have HB := n2_
    clear n0_ n1_ n2_
    refine start_ (n := 27) (S := fun w' => w'.cell? ⟨gb171, 0, none⟩ = some (.int .u64 t157) ∧ w'.cell? ⟨gb171, 1, none⟩ = some (.int .u64 t158) ∧ w'.cell? ⟨gb171, 2, none⟩ = some (.int .u8 t159) ∧ w'.cell? ⟨gb171, 3, none⟩ = some (.int .u8 t160) ∧ w'.cell? ⟨gb171, 4, none⟩ = some (.int .u8 t161) ∧ w'.cell? ⟨gb171, 5, none⟩ = some (.int .u8 t162) ∧ w'.cell? ⟨gb171, 6, none⟩ = some (.int .u8 t163) ∧ w'.cell? ⟨gb171, 7, none⟩ = some (.int .u8 t164) ∧ w'.cell? ⟨gb171, 8, none⟩ = some (.int .u8 t165) ∧ w'.cell? ⟨gb171, 9, none⟩ = some (.int .u8 t166) ∧ w'.cell? ⟨gb171, 10, none⟩ = some (.int .u8 t167) ∧ w'.cell? ⟨gb171, 11, none⟩ = some (.int .u8 t168) ∧ w'.cell? ⟨gb171, 12, none⟩ = some (.string t169)) (ds := []) #[false, false, false, false, false, false, false, false, false, false, false, false, false, false, false, false, false, false, false, false, false, false, false, false, false, false, false] (by kernel_rfl) rfl rfl ⟨(blk_cell BK171.out 0).trans rfl, (blk_cell BK171.out 1).trans rfl, (blk_cell BK171.out 2).trans rfl, (blk_cell BK171.out 3).trans rfl, (blk_cell BK171.out 4).trans rfl, (blk_cell BK171.out 5).trans rfl, (blk_cell BK171.out 6).trans rfl, (blk_cell BK171.out 7).trans rfl, (blk_cell BK171.out 8).trans rfl, (blk_cell BK171.out 9).trans rfl, (blk_cell BK171.out 10).trans rfl, (blk_cell BK171.out 11).trans rfl, (blk_cell BK171.out 12).trans rfl⟩ (fun hHeld => ?_); refine with_tabW wapentakelaw04_awake.tab3 wapentakelaw04_awake.bits3 (fun HT_ HW_ => ?_)
    generalize w54.drew = w55 at HO174 BK171 HB hHeld ⊢
    refine one_ (i := 0) (N := some 11) (bq_10_ 27 1) rfl rfl (one_of HT_.out (by kernel_rfl)) (by decide) (fun K hK => ?_)
    refine goes_ Try.func25 (by kernel_rfl) rfl #[] (by rfl) rfl rfl (by (try simp only [List.map_toArray, List.map_cons, List.map_nil]); first | done | rfl | (simp only [List.length_drop, List.length_take]; rfl)) ?_
    with_reducible refine (wapentakelaw04_some.calls  t175 t176 t177 t178 t179 t180 t181 t182 t183 t184 t185 t186 t187 _ A5.out).mono ?_
    rintro e w56 ⟨rfl, hb⟩
    refine ⟨_, rfl, ?_⟩
    have n0_ := Aside0.mk (Kd.R_below (by (with_reducible repeat (first | apply Kd.R_alloc | apply Kd.R_drewN | apply Kd.R_drew)); exact HO174.out) hb)
    have n1_ := Aside0.mk (blk_below (g := gb171) (o := .cells #[.int .u64 t157, .int .u64 t158, .int .u8 t159, .int .u8 t160, .int .u8 t161, .int .u8 t162, .int .u8 t163, .int .u8 t164, .int .u8 t165, .int .u8 t166, .int .u8 t167, .int .u8 t168, .string t169] 27 (0, 0)) (by (with_reducible repeat (first | refine blk_drewN ?_ _ | refine blk_drew ?_ | refine blk_alloc ?_ _)); exact BK171.out) hb)
    have n2_ := Aside0.mk (below_step (by repeat (first | (with_reducible first | exact HB.out | apply below_alloc | apply pw_below_drewN | apply below_drew1 | refine below_set ?_ GE171.out) | exact HB.out)) hb)
    clear HO174
    clear BK171
    clear HB
    have HO174 := n0_
    have BK171 := n1_
    have HB := n2_
    clear n0_ n1_ n2_
    (try clear hb)
    (try clear hb2)
    (try clear hk)
    (try clear hi)
    refine hK.out _ _ ⟨(blk_cell BK171.out 0).trans rfl, (blk_cell BK171.out 1).trans rfl, (blk_cell BK171.out 2).trans rfl, (blk_cell BK171.out 3).trans rfl, (blk_cell BK171.out 4).trans rfl, (blk_cell BK171.out 5).trans rfl, (blk_cell BK171.out 6).trans rfl, (blk_cell BK171.out 7).trans rfl, (blk_cell BK171.out 8).trans rfl, (blk_cell BK171.out 9).trans rfl, (blk_cell BK171.out 10).trans rfl, (blk_cell BK171.out 11).trans rfl, (blk_cell BK171.out 12).trans rfl⟩ (fun hHeld => ?_)
    clear hK K
    refine norm_ (a' := ?_) ?_ ?_
    rotate_left
    ·show Act.put _ (some 11) _ = _
     simp only [Act.put, zA10_, zB10_, zC10_, i64_w, i32_w]
     rfl
    refine one_ (i := 1) (N := some 12) (bq_10_ 27 3) rfl rfl (one_of HT_.out (by kernel_rfl)) (by decide) (fun K hK => ?_)
    refine goes_ Try.func9 (by kernel_rfl) rfl #[.agg #[.int .u64 t175, .int .u64 t176, .int .u8 t177, .int .u8 t178, .int .u8 t179, .int .u8 t180, .int .u8 t181, .int .u8 t182, .int .u8 t183, .int .u8 t184, .int .u8 t185, .int .u8 t186, .string t187]] (by rfl) rfl rfl (by (try simp only [List.map_toArray, List.map_cons, List.map_nil]); first | done | rfl | (simp only [List.length_drop, List.length_take]; rfl)) ?_
    with_reducible refine (entry_Write.calls k t175 t176 t177 t178 t179 t180 t181 t182 t183 t184 t185 t186 t187 t188 _ A6.out).mono ?_
    rintro e w57 ⟨rfl, hb⟩
    refine ⟨_, rfl, ?_⟩
    have n0_ := Aside0.mk (Kd.R_below (by (with_reducible repeat (first | apply Kd.R_alloc | apply Kd.R_drewN | apply Kd.R_drew)); exact HO174.out) hb)
    have n1_ := Aside0.mk (blk_below (g := gb171) (o := .cells #[.int .u64 t157, .int .u64 t158, .int .u8 t159, .int .u8 t160, .int .u8 t161, .int .u8 t162, .int .u8 t163, .int .u8 t164, .int .u8 t165, .int .u8 t166, .int .u8 t167, .int .u8 t168, .string t169] 27 (0, 0)) (by (with_reducible repeat (first | refine blk_drewN ?_ _ | refine blk_drew ?_ | refine blk_alloc ?_ _)); exact BK171.out) hb)
    have n2_ := Aside0.mk (below_step (by repeat (first | (with_reducible first | exact HB.out | apply below_alloc | apply pw_below_drewN | apply below_drew1 | refine below_set ?_ GE171.out) | exact HB.out)) hb)
    clear HO174
    clear BK171
    clear HB
    have HO174 := n0_
    have BK171 := n1_
    have HB := n2_
    clear n0_ n1_ n2_
    (try clear hb)
    (try clear hb2)
    (try clear hk)
    (try clear hi)
    refine hK.out _ _ ⟨(blk_cell BK171.out 0).trans rfl, (blk_cell BK171.out 1).trans rfl, (blk_cell BK171.out 2).trans rfl, (blk_cell BK171.out 3).trans rfl, (blk_cell BK171.out 4).trans rfl, (blk_cell BK171.out 5).trans rfl, (blk_cell BK171.out 6).trans rfl, (blk_cell BK171.out 7).trans rfl, (blk_cell BK171.out 8).trans rfl, (blk_cell BK171.out 9).trans rfl, (blk_cell BK171.out 10).trans rfl, (blk_cell BK171.out 11).trans rfl, (blk_cell BK171.out 12).trans rfl⟩ (fun hHeld => ?_)
    clear hK K
    refine norm_ (a' := ?_) ?_ ?_
    rotate_left
    ·show Act.put _ (some 12) _ = _
     simp only [Act.put, zA10_, zB10_, zC10_, i64_w, i32_w]
     rfl
    refine pure_ (i := 2) (N := some 13) (v := ?_) (a' := ?_) (bq_10_ 27 7) rfl rfl (any_of HT_.out (by kernel_rfl)) (fun _ _ _ h => h) (Or.inl ⟨by rfl, ?_⟩) ?_ ?_
    rotate_left
    ·intro w'
     go_simp
     with_reducible rfl
    rotate_left
    ·simp only [Act.put, zA10_, zB10_, zC10_, i64_w, i32_w]
     rfl
    refine pure_ (i := 3) (N := some 14) (v := ?_) (a' := ?_) (bq_10_ 27 15) rfl rfl (any_of HT_.out (by kernel_rfl)) (fun _ _ _ h => h) (Or.inl ⟨by rfl, ?_⟩) ?_ ?_
    rotate_left
    ·intro w'
     go_simp
     with_reducible rfl
    rotate_left
    ·simp only [Act.put, zA10_, zB10_, zC10_, i64_w, i32_w]
     rfl
    refine pure_ (i := 4) (N := some 15) (v := ?_) (a' := ?_) (bq_10_ 27 31) rfl rfl (any_of HT_.out (by kernel_rfl)) (fun _ _ _ h => h) (Or.inl ⟨by rfl, ?_⟩) ?_ ?_
    rotate_left
    ·intro w'
     go_simp
     with_reducible rfl
    rotate_left
    ·simp only [Act.put, zA10_, zB10_, zC10_, i64_w, i32_w]
     rfl
    refine pure_ (i := 5) (N := some 16) (v := ?_) (a' := ?_) (bq_10_ 27 63) rfl rfl (any_of HT_.out (by kernel_rfl)) (fun _ _ _ h => h) (Or.inl ⟨by rfl, ?_⟩) ?_ ?_
    rotate_left
    ·intro w'
     go_simp
     with_reducible rfl
    rotate_left
    ·simp only [Act.put, zA10_, zB10_, zC10_, i64_w, i32_w]
     rfl
    refine pure_ (i := 6) (N := some 17) (v := ?_) (a' := ?_) (bq_10_ 27 127) rfl rfl (any_of HT_.out (by kernel_rfl)) (fun _ _ _ h => h) (Or.inl ⟨by rfl, ?_⟩) ?_ ?_
    rotate_left
    ·intro w'
     go_simp
     with_reducible rfl
    rotate_left
    ·simp only [Act.put, zA10_, zB10_, zC10_, i64_w, i32_w]
     rfl
    refine take_ (i := 7) (N := some 18) (v := ?_) (a' := ?_) (bq_10_ 27 255) rfl rfl (take_ofW HT_.out HW_.out (by kernel_rfl)) (fun _ _ _ h => h) (Or.inl ⟨by rfl, ?_⟩) hHeld ?_ ?_
    rotate_left
    ·rintro w' ⟨s0, s1, s2, s3, s4, s5, s6, s7, s8, s9, s10, s11, s12⟩
     go_simp
     with_reducible rfl
    rotate_left
    ·simp only [Act.put, zA10_, zB10_, zC10_, i64_w, i32_w]
     rfl
    refine one_ (i := 8) (N := some 19) (bq_10_ 27 511) rfl rfl (one_of HT_.out (by kernel_rfl)) (by decide) (fun K hK => ?_)
    refine goes_ Try.func25 (by kernel_rfl) rfl #[] (by rfl) rfl rfl (by (try simp only [List.map_toArray, List.map_cons, List.map_nil]); first | done | rfl | (simp only [List.length_drop, List.length_take]; rfl)) ?_
    with_reducible refine (wapentakelaw04_some.calls  t189 t190 t191 t192 t193 t194 t195 t196 t197 t198 t199 t200 t201 _ A9.out).mono ?_
    rintro e w58 ⟨rfl, hb⟩
    refine ⟨_, rfl, ?_⟩
    have n0_ := Aside0.mk (Kd.R_below (by (with_reducible repeat (first | apply Kd.R_alloc | apply Kd.R_drewN | apply Kd.R_drew)); exact HO174.out) hb)
    have n1_ := Aside0.mk (blk_below (g := gb171) (o := .cells #[.int .u64 t157, .int .u64 t158, .int .u8 t159, .int .u8 t160, .int .u8 t161, .int .u8 t162, .int .u8 t163, .int .u8 t164, .int .u8 t165, .int .u8 t166, .int .u8 t167, .int .u8 t168, .string t169] 27 (0, 0)) (by (with_reducible repeat (first | refine blk_drewN ?_ _ | refine blk_drew ?_ | refine blk_alloc ?_ _)); exact BK171.out) hb)
    have n2_ := Aside0.mk (below_step (by repeat (first | (with_reducible first | exact HB.out | apply below_alloc | apply pw_below_drewN | apply below_drew1 | refine below_set ?_ GE171.out) | exact HB.out)) hb)
    clear HO174
    clear BK171
    clear HB
    have HO174 := n0_
    have BK171 := n1_
    have HB := n2_
    clear n0_ n1_ n2_
    (try clear hb)
    (try clear hb2)
    (try clear hk)
    (try clear hi)
    refine hK.out _ _ ⟨(blk_cell BK171.out 0).trans rfl, (blk_cell BK171.out 1).trans rfl, (blk_cell BK171.out 2).trans rfl, (blk_cell BK171.out 3).trans rfl, (blk_cell BK171.out 4).trans rfl, (blk_cell BK171.out 5).trans rfl, (blk_cell BK171.out 6).trans rfl, (blk_cell BK171.out 7).trans rfl, (blk_cell BK171.out 8).trans rfl, (blk_cell BK171.out 9).trans rfl, (blk_cell BK171.out 10).trans rfl, (blk_cell BK171.out 11).trans rfl, (blk_cell BK171.out 12).trans rfl⟩ (fun hHeld => ?_)
    clear hK K
    refine norm_ (a' := ?_) ?_ ?_
    rotate_left
    ·show Act.put _ (some 19) _ = _
     simp only [Act.put, zA10_, zB10_, zC10_, i64_w, i32_w]
     rfl
    refine pure_ (i := 9) (N := some 20) (v := ?_) (a' := ?_) (bq_10_ 27 1023) rfl rfl (any_of HT_.out (by kernel_rfl)) (fun _ _ _ h => h) (Or.inl ⟨by rfl, ?_⟩) ?_ ?_
    rotate_left
    ·intro w'
     go_simp
     with_reducible rfl
    rotate_left
    ·simp only [Act.put, zA10_, zB10_, zC10_, i64_w, i32_w]
     rfl
    refine pure_ (i := 10) (N := some 21) (v := ?_) (a' := ?_) (bq_10_ 27 2047) rfl rfl (any_of HT_.out (by kernel_rfl)) (fun _ _ _ h => h) (Or.inl ⟨by rfl, ?_⟩) ?_ ?_
    rotate_left
    ·intro w'
     go_simp
     with_reducible rfl
    rotate_left
    ·simp only [Act.put, zA10_, zB10_, zC10_, i64_w, i32_w]
     rfl
    refine pure_ (i := 11) (N := some 22) (v := ?_) (a' := ?_) (bq_10_ 27 4095) rfl rfl (any_of HT_.out (by kernel_rfl)) (fun _ _ _ h => h) (Or.inl ⟨by rfl, ?_⟩) ?_ ?_
    rotate_left
    ·intro w'
     go_simp
     with_reducible rfl
    rotate_left
    ·simp only [Act.put, zA10_, zB10_, zC10_, i64_w, i32_w]
     rfl
    refine pure_ (i := 12) (N := some 23) (v := undef) (a' := ?_) (bq_10_ 27 8191) rfl rfl (any_of HT_.out (by kernel_rfl)) (fun _ _ _ h => h) (Or.inr ⟨by rfl, rfl⟩) ?_ ?_
    rotate_left
    ·simp only [Act.put, zA10_, zB10_, zC10_, i64_w, i32_w]
     rfl
    refine pure_ (i := 13) (N := some 24) (v := undef) (a' := ?_) (bq_10_ 27 16383) rfl rfl (any_of HT_.out (by kernel_rfl)) (fun _ _ _ h => h) (Or.inr ⟨by rfl, rfl⟩) ?_ ?_
    rotate_left
    ·simp only [Act.put, zA10_, zB10_, zC10_, i64_w, i32_w]
     rfl
    refine pure_ (i := 14) (N := some 25) (v := undef) (a' := ?_) (bq_10_ 27 32767) rfl rfl (any_of HT_.out (by kernel_rfl)) (fun _ _ _ h => h) (Or.inr ⟨by rfl, rfl⟩) ?_ ?_
    rotate_left
    ·simp only [Act.put, zA10_, zB10_, zC10_, i64_w, i32_w]
     rfl
    refine pure_ (i := 15) (N := some 26) (v := ?_) (a' := ?_) (bq_10_ 27 65535) rfl rfl (any_of HT_.out (by kernel_rfl)) (fun _ _ _ h => h) (Or.inl ⟨by rfl, ?_⟩) ?_ ?_
    rotate_left
    ·intro w'
     go_simp
     with_reducible rfl
    rotate_left
    ·simp only [Act.put, zA10_, zB10_, zC10_, i64_w, i32_w]
     rfl
    refine pure_ (i := 16) (N := some 27) (v := ?_) (a' := ?_) (bq_10_ 27 131071) rfl rfl (any_of HT_.out (by kernel_rfl)) (fun _ _ _ h => h) (Or.inl ⟨by rfl, ?_⟩) ?_ ?_
    rotate_left
    ·intro w'
     go_simp
     with_reducible rfl
    rotate_left
    ·simp only [Act.put, zA10_, zB10_, zC10_, i64_w, i32_w]
     rfl
    refine pure_ (i := 17) (N := some 28) (v := undef) (a' := ?_) (bq_10_ 27 262143) rfl rfl (any_of HT_.out (by kernel_rfl)) (fun _ _ _ h => h) (Or.inr ⟨by rfl, rfl⟩) ?_ ?_
    rotate_left
    ·simp only [Act.put, zA10_, zB10_, zC10_, i64_w, i32_w]
     rfl
    refine pure_ (i := 18) (N := some 29) (v := undef) (a' := ?_) (bq_10_ 27 524287) rfl rfl (any_of HT_.out (by kernel_rfl)) (fun _ _ _ h => h) (Or.inr ⟨by rfl, rfl⟩) ?_ ?_
    rotate_left
    ·simp only [Act.put, zA10_, zB10_, zC10_, i64_w, i32_w]
     rfl
    refine pure_ (i := 19) (N := some 30) (v := undef) (a' := ?_) (bq_10_ 27 1048575) rfl rfl (any_of HT_.out (by kernel_rfl)) (fun _ _ _ h => h) (Or.inr ⟨by rfl, rfl⟩) ?_ ?_
    rotate_left
    ·simp only [Act.put, zA10_, zB10_, zC10_, i64_w, i32_w]
     rfl
    refine pure_ (i := 20) (N := some 31) (v := undef) (a' := ?_) (bq_10_ 27 2097151) rfl rfl (any_of HT_.out (by kernel_rfl)) (fun _ _ _ h => h) (Or.inr ⟨by rfl, rfl⟩) ?_ ?_
    rotate_left
    ·simp only [Act.put, zA10_, zB10_, zC10_, i64_w, i32_w]
     rfl
    refine pure_ (i := 21) (N := some 32) (v := ?_) (a' := ?_) (bq_10_ 27 4194303) rfl rfl (any_of HT_.out (by kernel_rfl)) (fun _ _ _ h => h) (Or.inl ⟨by rfl, ?_⟩) ?_ ?_
    rotate_left
    ·intro w'
     go_simp
     with_reducible rfl
    rotate_left
    ·simp only [Act.put, zA10_, zB10_, zC10_, i64_w, i32_w]
     rfl
    refine pure_ (i := 22) (N := some 33) (v := ?_) (a' := ?_) (bq_10_ 27 8388607) rfl rfl (any_of HT_.out (by kernel_rfl)) (fun _ _ _ h => h) (Or.inl ⟨by rfl, ?_⟩) ?_ ?_
    rotate_left
    ·intro w'
     go_simp
     with_reducible rfl
    rotate_left
    ·simp only [Act.put, zA10_, zB10_, zC10_, i64_w, i32_w]
     rfl
    refine pure_ (i := 23) (N := some 34) (v := undef) (a' := ?_) (bq_10_ 27 16777215) rfl rfl (any_of HT_.out (by kernel_rfl)) (fun _ _ _ h => h) (Or.inr ⟨by rfl, rfl⟩) ?_ ?_
    rotate_left
    ·simp only [Act.put, zA10_, zB10_, zC10_, i64_w, i32_w]
     rfl
    refine pure_ (i := 24) (N := some 35) (v := undef) (a' := ?_) (bq_10_ 27 33554431) rfl rfl (any_of HT_.out (by kernel_rfl)) (fun _ _ _ h => h) (Or.inr ⟨by rfl, rfl⟩) ?_ ?_
    rotate_left
    ·simp only [Act.put, zA10_, zB10_, zC10_, i64_w, i32_w]
     rfl
    refine pure_ (i := 25) (N := some 36) (v := ?_) (a' := ?_) (bq_10_ 27 67108863) rfl rfl (any_of HT_.out (by kernel_rfl)) (fun _ _ _ h => h) (Or.inl ⟨by rfl, ?_⟩) ?_ ?_
    rotate_left
    ·intro w'
     go_simp
     with_reducible rfl
    rotate_left
    ·simp only [Act.put, zA10_, zB10_, zC10_, i64_w, i32_w]
     rfl
    refine pure_ (i := 26) (N := some 0) (v := ?_) (a' := ?_) (bq_10_ 27 134217727) rfl rfl (any_of HT_.out (by kernel_rfl)) (fun _ _ _ h => h) (Or.inl ⟨by rfl, ?_⟩) ?_ ?_
    rotate_left
    ·intro w'
     go_simp
     with_reducible rfl
    rotate_left
    ·simp only [Act.put, zA10_, zB10_, zC10_, i64_w, i32_w]
     rfl
    refine done_ (done_of HT_.out (by kernel_rfl)) ?_
    try go_wp2
    go_ret
    exact ⟨by first | rfl | (simp [errW_none, errW_some] <;> rfl) | (simp [*, errW_none, errW_some] <;> rfl), by repeat (first | (with_reducible first | exact HB.out | apply below_alloc | apply pw_below_drewN | apply below_drew1 | refine below_set ?_ GE171.out) | exact HB.out)⟩
  ·replace c8 := Bool.eq_false_iff.mpr c8
   subst c8
   have H1 : (some false) = some r := by rw [if_neg (show ¬ (false = true) by decide)] at H; exact H
   clear H
   have H := H1
   clear H1
   obtain rfl := Option.some.inj H
   go_enter Try.func14, Try.ntmps14
   try go_wp2_with (first | ((with_reducible refine gate_callee (f := 25) rfl ?_); refine goesL_ (some 5) rfl rfl Try.func25 (by kernel_rfl) rfl #[] rfl (by (try simp only [List.map_toArray, List.map_cons, List.map_nil]); first | done | rfl | (simp only [List.length_drop, List.length_take]; rfl)) ?_; (with_reducible refine (wapentakelaw04_some.calls  t143 t144 t145 t146 t147 t148 t149 t150 t151 t152 t153 t154 t155 _ A1.out).mono ?_); rintro e w59 ⟨rfl, hb⟩; refine ⟨_, rfl, ?_⟩; have n0_ := Aside0.mk (below_step (by repeat (first | (with_reducible first | exact HB.out | apply below_alloc | apply pw_below_drewN | apply below_drew1) | exact HB.out)) hb); clear HB; have HB := n0_; clear n0_; (try clear hb); (try clear hb2); (try clear hk); (try clear hi)) | ((with_reducible refine gate_callee (f := 9) rfl ?_); refine goesL_ (some 6) rfl rfl Try.func9 (by kernel_rfl) rfl #[.agg #[.int .u64 t143, .int .u64 t144, .int .u8 t145, .int .u8 t146, .int .u8 t147, .int .u8 t148, .int .u8 t149, .int .u8 t150, .int .u8 t151, .int .u8 t152, .int .u8 t153, .int .u8 t154, .string t155]] rfl (by (try simp only [List.map_toArray, List.map_cons, List.map_nil]); first | done | rfl | (simp only [List.length_drop, List.length_take]; rfl)) ?_; (with_reducible refine (entry_Write.calls k t143 t144 t145 t146 t147 t148 t149 t150 t151 t152 t153 t154 t155 t156 _ A2.out).mono ?_); rintro e w60 ⟨rfl, hb⟩; refine ⟨_, rfl, ?_⟩; have n0_ := Aside0.mk (below_step (by repeat (first | (with_reducible first | exact HB.out | apply below_alloc | apply pw_below_drewN | apply below_drew1) | exact HB.out)) hb); clear HB; have HB := n0_; clear n0_; (try clear hb); (try clear hb2); (try clear hk); (try clear hi)) | ((with_reducible refine gate_callee (f := 11) rfl ?_); refine goesL_ (some 7) rfl rfl Try.func11 (by kernel_rfl) rfl #[.string t156] rfl (by (try simp only [List.map_toArray, List.map_cons, List.map_nil]); first | done | rfl | (simp only [List.length_drop, List.length_take]; rfl)) ?_; (with_reducible refine (entry_Read.calls k t156 t157 t158 t159 t160 t161 t162 t163 t164 t165 t166 t167 t168 t169 false _ A3.out).mono ?_); rintro e w61 ⟨rfl, hb⟩; refine ⟨_, rfl, ?_⟩; have n0_ := Aside0.mk (below_step (by repeat (first | (with_reducible first | exact HB.out | apply below_alloc | apply pw_below_drewN | apply below_drew1) | exact HB.out)) hb); clear HB; have HB := n0_; clear n0_; (try clear hb); (try clear hb2); (try clear hk); (try clear hi)) | ((with_reducible refine gate_dst (N := 1) rfl ?_); (try (refine gate_guard (by rfl) ?_; dsimp only)); refine box_event ?hg (N := 1) ?hd (cs := #[.int .u64 0, .int .u64 0, .int .u8 0, .int .u8 0, .int .u8 0, .int .u8 0, .int .u8 0, .int .u8 0, .int .u8 0, .int .u8 0, .int .u8 0, .int .u8 0, .string (⟨#[]⟩ : ByteArray)]) (t := 27) ?hr ?_; (case hd => rfl); (case hg => rfl); (case hr => first | (go_simp; done) | (go_simp; rfl)); intro gb171 hg w62 hbox hb; have n0_ := Aside0.mk (below_step (by repeat (first | (with_reducible first | exact HB.out | apply below_alloc | apply pw_below_drewN | apply below_drew1) | exact HB.out)) hb); have n1_ := Aside0.mk (hbox); have n2_ := Aside0.mk ((by rw [hg]; exact (below_size (by repeat (first | (with_reducible first | exact HB.out | apply below_alloc | apply pw_below_drewN | apply below_drew1) | exact HB.out))) : w.heap.size ≤ gb171)); have n3_ := Aside0.mk ((by rw [hg]; exact (below_size (by repeat (first | (with_reducible first | exact HB.out | apply below_alloc | apply pw_below_drewN | apply below_drew1) | exact HB.out))) : w.heap.size ≤ gb171)); clear HB; have HB := n0_; have BK171 := n1_; have GW171 := n2_; have GE171 := n3_; clear n0_ n1_ n2_ n3_; clear hb hbox hg; have hcz63_0 : w62.cell? ⟨gb171, 0, none⟩ = some (.int .u64 0) := (blk_cell BK171.out 0).trans rfl; have hcz63_1 : w62.cell? ⟨gb171, 1, none⟩ = some (.int .u64 0) := (blk_cell BK171.out 1).trans rfl; have hcz63_2 : w62.cell? ⟨gb171, 2, none⟩ = some (.int .u8 0) := (blk_cell BK171.out 2).trans rfl; have hcz63_3 : w62.cell? ⟨gb171, 3, none⟩ = some (.int .u8 0) := (blk_cell BK171.out 3).trans rfl; have hcz63_4 : w62.cell? ⟨gb171, 4, none⟩ = some (.int .u8 0) := (blk_cell BK171.out 4).trans rfl; have hcz63_5 : w62.cell? ⟨gb171, 5, none⟩ = some (.int .u8 0) := (blk_cell BK171.out 5).trans rfl; have hcz63_6 : w62.cell? ⟨gb171, 6, none⟩ = some (.int .u8 0) := (blk_cell BK171.out 6).trans rfl; have hcz63_7 : w62.cell? ⟨gb171, 7, none⟩ = some (.int .u8 0) := (blk_cell BK171.out 7).trans rfl; have hcz63_8 : w62.cell? ⟨gb171, 8, none⟩ = some (.int .u8 0) := (blk_cell BK171.out 8).trans rfl; have hcz63_9 : w62.cell? ⟨gb171, 9, none⟩ = some (.int .u8 0) := (blk_cell BK171.out 9).trans rfl; have hcz63_10 : w62.cell? ⟨gb171, 10, none⟩ = some (.int .u8 0) := (blk_cell BK171.out 10).trans rfl; have hcz63_11 : w62.cell? ⟨gb171, 11, none⟩ = some (.int .u8 0) := (blk_cell BK171.out 11).trans rfl; have hcz63_12 : w62.cell? ⟨gb171, 12, none⟩ = some (.string (⟨#[]⟩ : ByteArray)) := (blk_cell BK171.out 12).trans rfl; have hfz63_0 := blk_frozen BK171.out 0; have hfz63_1 := blk_frozen BK171.out 1; have hfz63_2 := blk_frozen BK171.out 2; have hfz63_3 := blk_frozen BK171.out 3; have hfz63_4 := blk_frozen BK171.out 4; have hfz63_5 := blk_frozen BK171.out 5; have hfz63_6 := blk_frozen BK171.out 6; have hfz63_7 := blk_frozen BK171.out 7; have hfz63_8 := blk_frozen BK171.out 8; have hfz63_9 := blk_frozen BK171.out 9; have hfz63_10 := blk_frozen BK171.out 10; have hfz63_11 := blk_frozen BK171.out 11; have hfz63_12 := blk_frozen BK171.out 12) | ((with_reducible refine gate_callee (f := 13) rfl ?_); refine goesL_ (some 10) rfl rfl Try.func13 (by kernel_rfl) rfl #[.int .u8 13] rfl (by (try simp only [List.map_toArray, List.map_cons, List.map_nil]); first | done | rfl | (simp only [List.length_drop, List.length_take]; rfl)) ?_; (with_reducible refine (entry_Members.calls k 13 t172 _ A4.out).mono ?_); rintro e w64 ⟨v173, rfl, ho0, hb⟩; refine ⟨_, rfl, ?_⟩; have n0_ := Aside0.mk (Kd.R_lower ho0 (below_size (by repeat (first | (with_reducible first | exact HB.out | apply below_alloc | apply pw_below_drewN | apply below_drew1 | refine below_set ?_ GE171.out) | exact HB.out)))); have n1_ := Aside0.mk (blk_below (g := gb171) (o := .cells #[.int .u64 t157, .int .u64 t158, .int .u8 t159, .int .u8 t160, .int .u8 t161, .int .u8 t162, .int .u8 t163, .int .u8 t164, .int .u8 t165, .int .u8 t166, .int .u8 t167, .int .u8 t168, .string t169] 27 (0, 0)) (by (with_reducible repeat (first | refine blk_drewN ?_ _ | refine blk_drew ?_ | refine blk_alloc ?_ _)); refine blk_put (cs := #[.int .u64 t157, .int .u64 t158, .int .u8 t159, .int .u8 t160, .int .u8 t161, .int .u8 t162, .int .u8 t163, .int .u8 t164, .int .u8 t165, .int .u8 t166, .int .u8 t167, .int .u8 t168, .string (⟨#[]⟩ : ByteArray)]) ?_ 12 _ rfl; (with_reducible repeat (first | refine blk_drewN ?_ _ | refine blk_drew ?_ | refine blk_alloc ?_ _)); refine blk_put (cs := #[.int .u64 t157, .int .u64 t158, .int .u8 t159, .int .u8 t160, .int .u8 t161, .int .u8 t162, .int .u8 t163, .int .u8 t164, .int .u8 t165, .int .u8 t166, .int .u8 t167, .int .u8 0, .string (⟨#[]⟩ : ByteArray)]) ?_ 11 _ rfl; (with_reducible repeat (first | refine blk_drewN ?_ _ | refine blk_drew ?_ | refine blk_alloc ?_ _)); refine blk_put (cs := #[.int .u64 t157, .int .u64 t158, .int .u8 t159, .int .u8 t160, .int .u8 t161, .int .u8 t162, .int .u8 t163, .int .u8 t164, .int .u8 t165, .int .u8 t166, .int .u8 0, .int .u8 0, .string (⟨#[]⟩ : ByteArray)]) ?_ 10 _ rfl; (with_reducible repeat (first | refine blk_drewN ?_ _ | refine blk_drew ?_ | refine blk_alloc ?_ _)); refine blk_put (cs := #[.int .u64 t157, .int .u64 t158, .int .u8 t159, .int .u8 t160, .int .u8 t161, .int .u8 t162, .int .u8 t163, .int .u8 t164, .int .u8 t165, .int .u8 0, .int .u8 0, .int .u8 0, .string (⟨#[]⟩ : ByteArray)]) ?_ 9 _ rfl; (with_reducible repeat (first | refine blk_drewN ?_ _ | refine blk_drew ?_ | refine blk_alloc ?_ _)); refine blk_put (cs := #[.int .u64 t157, .int .u64 t158, .int .u8 t159, .int .u8 t160, .int .u8 t161, .int .u8 t162, .int .u8 t163, .int .u8 t164, .int .u8 0, .int .u8 0, .int .u8 0, .int .u8 0, .string (⟨#[]⟩ : ByteArray)]) ?_ 8 _ rfl; (with_reducible repeat (first | refine blk_drewN ?_ _ | refine blk_drew ?_ | refine blk_alloc ?_ _)); refine blk_put (cs := #[.int .u64 t157, .int .u64 t158, .int .u8 t159, .int .u8 t160, .int .u8 t161, .int .u8 t162, .int .u8 t163, .int .u8 0, .int .u8 0, .int .u8 0, .int .u8 0, .int .u8 0, .string (⟨#[]⟩ : ByteArray)]) ?_ 7 _ rfl; (with_reducible repeat (first | refine blk_drewN ?_ _ | refine blk_drew ?_ | refine blk_alloc ?_ _)); refine blk_put (cs := #[.int .u64 t157, .int .u64 t158, .int .u8 t159, .int .u8 t160, .int .u8 t161, .int .u8 t162, .int .u8 0, .int .u8 0, .int .u8 0, .int .u8 0, .int .u8 0, .int .u8 0, .string (⟨#[]⟩ : ByteArray)]) ?_ 6 _ rfl; (with_reducible repeat (first | refine blk_drewN ?_ _ | refine blk_drew ?_ | refine blk_alloc ?_ _)); refine blk_put (cs := #[.int .u64 t157, .int .u64 t158, .int .u8 t159, .int .u8 t160, .int .u8 t161, .int .u8 0, .int .u8 0, .int .u8 0, .int .u8 0, .int .u8 0, .int .u8 0, .int .u8 0, .string (⟨#[]⟩ : ByteArray)]) ?_ 5 _ rfl; (with_reducible repeat (first | refine blk_drewN ?_ _ | refine blk_drew ?_ | refine blk_alloc ?_ _)); refine blk_put (cs := #[.int .u64 t157, .int .u64 t158, .int .u8 t159, .int .u8 t160, .int .u8 0, .int .u8 0, .int .u8 0, .int .u8 0, .int .u8 0, .int .u8 0, .int .u8 0, .int .u8 0, .string (⟨#[]⟩ : ByteArray)]) ?_ 4 _ rfl; (with_reducible repeat (first | refine blk_drewN ?_ _ | refine blk_drew ?_ | refine blk_alloc ?_ _)); refine blk_put (cs := #[.int .u64 t157, .int .u64 t158, .int .u8 t159, .int .u8 0, .int .u8 0, .int .u8 0, .int .u8 0, .int .u8 0, .int .u8 0, .int .u8 0, .int .u8 0, .int .u8 0, .string (⟨#[]⟩ : ByteArray)]) ?_ 3 _ rfl; (with_reducible repeat (first | refine blk_drewN ?_ _ | refine blk_drew ?_ | refine blk_alloc ?_ _)); refine blk_put (cs := #[.int .u64 t157, .int .u64 t158, .int .u8 0, .int .u8 0, .int .u8 0, .int .u8 0, .int .u8 0, .int .u8 0, .int .u8 0, .int .u8 0, .int .u8 0, .int .u8 0, .string (⟨#[]⟩ : ByteArray)]) ?_ 2 _ rfl; (with_reducible repeat (first | refine blk_drewN ?_ _ | refine blk_drew ?_ | refine blk_alloc ?_ _)); refine blk_put (cs := #[.int .u64 t157, .int .u64 0, .int .u8 0, .int .u8 0, .int .u8 0, .int .u8 0, .int .u8 0, .int .u8 0, .int .u8 0, .int .u8 0, .int .u8 0, .int .u8 0, .string (⟨#[]⟩ : ByteArray)]) ?_ 1 _ rfl; (with_reducible repeat (first | refine blk_drewN ?_ _ | refine blk_drew ?_ | refine blk_alloc ?_ _)); refine blk_put (cs := #[.int .u64 0, .int .u64 0, .int .u8 0, .int .u8 0, .int .u8 0, .int .u8 0, .int .u8 0, .int .u8 0, .int .u8 0, .int .u8 0, .int .u8 0, .int .u8 0, .string (⟨#[]⟩ : ByteArray)]) ?_ 0 _ rfl; (with_reducible repeat (first | refine blk_drewN ?_ _ | refine blk_drew ?_ | refine blk_alloc ?_ _)); exact BK171.out) hb); have n2_ := Aside0.mk (below_step (by repeat (first | (with_reducible first | exact HB.out | apply below_alloc | apply pw_below_drewN | apply below_drew1 | refine below_set ?_ GE171.out) | exact HB.out)) hb); clear BK171; clear HB; have HO174 := n0_; have BK171 := n1_; have HB := n2_; clear n0_ n1_ n2_; (try clear hb); (try clear hb2); (try clear hk); (try clear hi); (try clear ho0)))
   have n0_ := Aside0.mk (Kd.R_drew HO174.out)
   have n1_ := Aside0.mk (blk_drew BK171.out)
   have n2_ := Aside0.mk (below_drew1 HB.out)
   clear HO174
   clear BK171
   clear HB
   have HO174 := n0_
   have BK171 := n1_
   have HB := n2_
   clear n0_ n1_ n2_
   refine start_ (n := 27) (S := fun w' => True) (ds := []) #[false, false, false, false, false, false, false, false, false, false, false, false, false, false, false, false, false, false, false, false, false, false, false, false, false, false, false] (by kernel_rfl) rfl rfl trivial (fun hHeld => ?_); refine with_tabW wapentakelaw04_awake.tab3 wapentakelaw04_awake.bits3 (fun HT_ HW_ => ?_)
   generalize w64.drew = w65 at HO174 BK171 HB hHeld ⊢
   refine one_ (i := 0) (N := some 11) (bq_10_ 27 1) rfl rfl (one_of HT_.out (by kernel_rfl)) (by decide) (fun K hK => ?_)
   refine goes_ Try.func25 (by kernel_rfl) rfl #[] (by rfl) rfl rfl (by (try simp only [List.map_toArray, List.map_cons, List.map_nil]); first | done | rfl | (simp only [List.length_drop, List.length_take]; rfl)) ?_
   with_reducible refine (wapentakelaw04_some.calls  t175 t176 t177 t178 t179 t180 t181 t182 t183 t184 t185 t186 t187 _ A5.out).mono ?_
   rintro e w66 ⟨rfl, hb⟩
   refine ⟨_, rfl, ?_⟩
   have n0_ := Aside0.mk (Kd.R_below (by (with_reducible repeat (first | apply Kd.R_alloc | apply Kd.R_drewN | apply Kd.R_drew)); exact HO174.out) hb)
   have n1_ := Aside0.mk (blk_below (g := gb171) (o := .cells #[.int .u64 t157, .int .u64 t158, .int .u8 t159, .int .u8 t160, .int .u8 t161, .int .u8 t162, .int .u8 t163, .int .u8 t164, .int .u8 t165, .int .u8 t166, .int .u8 t167, .int .u8 t168, .string t169] 27 (0, 0)) (by (with_reducible repeat (first | refine blk_drewN ?_ _ | refine blk_drew ?_ | refine blk_alloc ?_ _)); exact BK171.out) hb)
   have n2_ := Aside0.mk (below_step (by repeat (first | (with_reducible first | exact HB.out | apply below_alloc | apply pw_below_drewN | apply below_drew1 | refine below_set ?_ GE171.out) | exact HB.out)) hb)
   clear HO174
   clear BK171
   clear HB
   have HO174 := n0_
   have BK171 := n1_
   have HB := n2_
   clear n0_ n1_ n2_
   (try clear hb)
   (try clear hb2)
   (try clear hk)
   (try clear hi)
   refine hK.out _ _ trivial (fun hHeld => ?_)
   clear hK K
   refine norm_ (a' := ?_) ?_ ?_
   rotate_left
   ·show Act.put _ (some 11) _ = _
    simp only [Act.put, zA10_, zB10_, zC10_, i64_w, i32_w]
    rfl
   refine one_ (i := 1) (N := some 12) (bq_10_ 27 3) rfl rfl (one_of HT_.out (by kernel_rfl)) (by decide) (fun K hK => ?_)
   refine goes_ Try.func9 (by kernel_rfl) rfl #[.agg #[.int .u64 t175, .int .u64 t176, .int .u8 t177, .int .u8 t178, .int .u8 t179, .int .u8 t180, .int .u8 t181, .int .u8 t182, .int .u8 t183, .int .u8 t184, .int .u8 t185, .int .u8 t186, .string t187]] (by rfl) rfl rfl (by (try simp only [List.map_toArray, List.map_cons, List.map_nil]); first | done | rfl | (simp only [List.length_drop, List.length_take]; rfl)) ?_
   with_reducible refine (entry_Write.calls k t175 t176 t177 t178 t179 t180 t181 t182 t183 t184 t185 t186 t187 t188 _ A6.out).mono ?_
   rintro e w67 ⟨rfl, hb⟩
   refine ⟨_, rfl, ?_⟩
   have n0_ := Aside0.mk (Kd.R_below (by (with_reducible repeat (first | apply Kd.R_alloc | apply Kd.R_drewN | apply Kd.R_drew)); exact HO174.out) hb)
   have n1_ := Aside0.mk (blk_below (g := gb171) (o := .cells #[.int .u64 t157, .int .u64 t158, .int .u8 t159, .int .u8 t160, .int .u8 t161, .int .u8 t162, .int .u8 t163, .int .u8 t164, .int .u8 t165, .int .u8 t166, .int .u8 t167, .int .u8 t168, .string t169] 27 (0, 0)) (by (with_reducible repeat (first | refine blk_drewN ?_ _ | refine blk_drew ?_ | refine blk_alloc ?_ _)); exact BK171.out) hb)
   have n2_ := Aside0.mk (below_step (by repeat (first | (with_reducible first | exact HB.out | apply below_alloc | apply pw_below_drewN | apply below_drew1 | refine below_set ?_ GE171.out) | exact HB.out)) hb)
   clear HO174
   clear BK171
   clear HB
   have HO174 := n0_
   have BK171 := n1_
   have HB := n2_
   clear n0_ n1_ n2_
   (try clear hb)
   (try clear hb2)
   (try clear hk)
   (try clear hi)
   refine hK.out _ _ trivial (fun hHeld => ?_)
   clear hK K
   refine norm_ (a' := ?_) ?_ ?_
   rotate_left
   ·show Act.put _ (some 12) _ = _
    simp only [Act.put, zA10_, zB10_, zC10_, i64_w, i32_w]
    rfl
   refine pure_ (i := 2) (N := some 13) (v := ?_) (a' := ?_) (bq_10_ 27 7) rfl rfl (any_of HT_.out (by kernel_rfl)) (fun _ _ _ h => h) (Or.inl ⟨by rfl, ?_⟩) ?_ ?_
   rotate_left
   ·intro w'
    go_simp
    with_reducible rfl
   rotate_left
   ·simp only [Act.put, zA10_, zB10_, zC10_, i64_w, i32_w]
    rfl
   refine pure_ (i := 3) (N := some 14) (v := ?_) (a' := ?_) (bq_10_ 27 15) rfl rfl (any_of HT_.out (by kernel_rfl)) (fun _ _ _ h => h) (Or.inl ⟨by rfl, ?_⟩) ?_ ?_
   rotate_left
   ·intro w'
    go_simp
    with_reducible rfl
   rotate_left
   ·simp only [Act.put, zA10_, zB10_, zC10_, i64_w, i32_w]
    rfl
   refine pure_ (i := 4) (N := some 15) (v := ?_) (a' := ?_) (bq_10_ 27 31) rfl rfl (any_of HT_.out (by kernel_rfl)) (fun _ _ _ h => h) (Or.inl ⟨by rfl, ?_⟩) ?_ ?_
   rotate_left
   ·intro w'
    go_simp
    with_reducible rfl
   rotate_left
   ·simp only [Act.put, zA10_, zB10_, zC10_, i64_w, i32_w]
    rfl
   refine pure_ (i := 5) (N := some 16) (v := ?_) (a' := ?_) (bq_10_ 27 63) rfl rfl (any_of HT_.out (by kernel_rfl)) (fun _ _ _ h => h) (Or.inl ⟨by rfl, ?_⟩) ?_ ?_
   rotate_left
   ·intro w'
    go_simp
    with_reducible rfl
   rotate_left
   ·simp only [Act.put, zA10_, zB10_, zC10_, i64_w, i32_w]
    rfl
   refine pure_ (i := 6) (N := some 17) (v := ?_) (a' := ?_) (bq_10_ 27 127) rfl rfl (any_of HT_.out (by kernel_rfl)) (fun _ _ _ h => h) (Or.inl ⟨by rfl, ?_⟩) ?_ ?_
   rotate_left
   ·intro w'
    go_simp
    with_reducible rfl
   rotate_left
   ·simp only [Act.put, zA10_, zB10_, zC10_, i64_w, i32_w]
    rfl
   refine pure_ (i := 7) (N := some 18) (v := undef) (a' := ?_) (bq_10_ 27 255) rfl rfl (any_of HT_.out (by kernel_rfl)) (fun _ _ _ h => h) (Or.inr ⟨by rfl, rfl⟩) ?_ ?_
   rotate_left
   ·simp only [Act.put, zA10_, zB10_, zC10_, i64_w, i32_w]
    rfl
   refine pure_ (i := 8) (N := some 19) (v := undef) (a' := ?_) (bq_10_ 27 511) rfl rfl (any_of HT_.out (by kernel_rfl)) (fun _ _ _ h => h) (Or.inr ⟨by rfl, rfl⟩) ?_ ?_
   rotate_left
   ·simp only [Act.put, zA10_, zB10_, zC10_, i64_w, i32_w]
    rfl
   refine pure_ (i := 9) (N := some 20) (v := undef) (a' := ?_) (bq_10_ 27 1023) rfl rfl (any_of HT_.out (by kernel_rfl)) (fun _ _ _ h => h) (Or.inr ⟨by rfl, rfl⟩) ?_ ?_
   rotate_left
   ·simp only [Act.put, zA10_, zB10_, zC10_, i64_w, i32_w]
    rfl
   refine pure_ (i := 10) (N := some 21) (v := ?_) (a' := ?_) (bq_10_ 27 2047) rfl rfl (any_of HT_.out (by kernel_rfl)) (fun _ _ _ h => h) (Or.inl ⟨by rfl, ?_⟩) ?_ ?_
   rotate_left
   ·intro w'
    go_simp
    with_reducible rfl
   rotate_left
   ·simp only [Act.put, zA10_, zB10_, zC10_, i64_w, i32_w]
    rfl
   refine pure_ (i := 11) (N := some 22) (v := ?_) (a' := ?_) (bq_10_ 27 4095) rfl rfl (any_of HT_.out (by kernel_rfl)) (fun _ _ _ h => h) (Or.inl ⟨by rfl, ?_⟩) ?_ ?_
   rotate_left
   ·intro w'
    go_simp
    with_reducible rfl
   rotate_left
   ·simp only [Act.put, zA10_, zB10_, zC10_, i64_w, i32_w]
    rfl
   refine pure_ (i := 12) (N := some 23) (v := undef) (a' := ?_) (bq_10_ 27 8191) rfl rfl (any_of HT_.out (by kernel_rfl)) (fun _ _ _ h => h) (Or.inr ⟨by rfl, rfl⟩) ?_ ?_
   rotate_left
   ·simp only [Act.put, zA10_, zB10_, zC10_, i64_w, i32_w]
    rfl
   refine pure_ (i := 13) (N := some 24) (v := undef) (a' := ?_) (bq_10_ 27 16383) rfl rfl (any_of HT_.out (by kernel_rfl)) (fun _ _ _ h => h) (Or.inr ⟨by rfl, rfl⟩) ?_ ?_
   rotate_left
   ·simp only [Act.put, zA10_, zB10_, zC10_, i64_w, i32_w]
    rfl
   refine pure_ (i := 14) (N := some 25) (v := undef) (a' := ?_) (bq_10_ 27 32767) rfl rfl (any_of HT_.out (by kernel_rfl)) (fun _ _ _ h => h) (Or.inr ⟨by rfl, rfl⟩) ?_ ?_
   rotate_left
   ·simp only [Act.put, zA10_, zB10_, zC10_, i64_w, i32_w]
    rfl
   refine pure_ (i := 15) (N := some 26) (v := ?_) (a' := ?_) (bq_10_ 27 65535) rfl rfl (any_of HT_.out (by kernel_rfl)) (fun _ _ _ h => h) (Or.inl ⟨by rfl, ?_⟩) ?_ ?_
   rotate_left
   ·intro w'
    go_simp
    with_reducible rfl
   rotate_left
   ·simp only [Act.put, zA10_, zB10_, zC10_, i64_w, i32_w]
    rfl
   refine pure_ (i := 16) (N := some 27) (v := ?_) (a' := ?_) (bq_10_ 27 131071) rfl rfl (any_of HT_.out (by kernel_rfl)) (fun _ _ _ h => h) (Or.inl ⟨by rfl, ?_⟩) ?_ ?_
   rotate_left
   ·intro w'
    go_simp
    with_reducible rfl
   rotate_left
   ·simp only [Act.put, zA10_, zB10_, zC10_, i64_w, i32_w]
    rfl
   refine pure_ (i := 17) (N := some 28) (v := undef) (a' := ?_) (bq_10_ 27 262143) rfl rfl (any_of HT_.out (by kernel_rfl)) (fun _ _ _ h => h) (Or.inr ⟨by rfl, rfl⟩) ?_ ?_
   rotate_left
   ·simp only [Act.put, zA10_, zB10_, zC10_, i64_w, i32_w]
    rfl
   refine pure_ (i := 18) (N := some 29) (v := undef) (a' := ?_) (bq_10_ 27 524287) rfl rfl (any_of HT_.out (by kernel_rfl)) (fun _ _ _ h => h) (Or.inr ⟨by rfl, rfl⟩) ?_ ?_
   rotate_left
   ·simp only [Act.put, zA10_, zB10_, zC10_, i64_w, i32_w]
    rfl
   refine pure_ (i := 19) (N := some 30) (v := undef) (a' := ?_) (bq_10_ 27 1048575) rfl rfl (any_of HT_.out (by kernel_rfl)) (fun _ _ _ h => h) (Or.inr ⟨by rfl, rfl⟩) ?_ ?_
   rotate_left
   ·simp only [Act.put, zA10_, zB10_, zC10_, i64_w, i32_w]
    rfl
   refine pure_ (i := 20) (N := some 31) (v := undef) (a' := ?_) (bq_10_ 27 2097151) rfl rfl (any_of HT_.out (by kernel_rfl)) (fun _ _ _ h => h) (Or.inr ⟨by rfl, rfl⟩) ?_ ?_
   rotate_left
   ·simp only [Act.put, zA10_, zB10_, zC10_, i64_w, i32_w]
    rfl
   refine pure_ (i := 21) (N := some 32) (v := ?_) (a' := ?_) (bq_10_ 27 4194303) rfl rfl (any_of HT_.out (by kernel_rfl)) (fun _ _ _ h => h) (Or.inl ⟨by rfl, ?_⟩) ?_ ?_
   rotate_left
   ·intro w'
    go_simp
    with_reducible rfl
   rotate_left
   ·simp only [Act.put, zA10_, zB10_, zC10_, i64_w, i32_w]
    rfl
   refine pure_ (i := 22) (N := some 33) (v := ?_) (a' := ?_) (bq_10_ 27 8388607) rfl rfl (any_of HT_.out (by kernel_rfl)) (fun _ _ _ h => h) (Or.inl ⟨by rfl, ?_⟩) ?_ ?_
   rotate_left
   ·intro w'
    go_simp
    with_reducible rfl
   rotate_left
   ·simp only [Act.put, zA10_, zB10_, zC10_, i64_w, i32_w]
    rfl
   refine pure_ (i := 23) (N := some 34) (v := undef) (a' := ?_) (bq_10_ 27 16777215) rfl rfl (any_of HT_.out (by kernel_rfl)) (fun _ _ _ h => h) (Or.inr ⟨by rfl, rfl⟩) ?_ ?_
   rotate_left
   ·simp only [Act.put, zA10_, zB10_, zC10_, i64_w, i32_w]
    rfl
   refine pure_ (i := 24) (N := some 35) (v := undef) (a' := ?_) (bq_10_ 27 33554431) rfl rfl (any_of HT_.out (by kernel_rfl)) (fun _ _ _ h => h) (Or.inr ⟨by rfl, rfl⟩) ?_ ?_
   rotate_left
   ·simp only [Act.put, zA10_, zB10_, zC10_, i64_w, i32_w]
    rfl
   refine pure_ (i := 25) (N := some 36) (v := ?_) (a' := ?_) (bq_10_ 27 67108863) rfl rfl (any_of HT_.out (by kernel_rfl)) (fun _ _ _ h => h) (Or.inl ⟨by rfl, ?_⟩) ?_ ?_
   rotate_left
   ·intro w'
    go_simp
    with_reducible rfl
   rotate_left
   ·simp only [Act.put, zA10_, zB10_, zC10_, i64_w, i32_w]
    rfl
   refine pure_ (i := 26) (N := some 0) (v := ?_) (a' := ?_) (bq_10_ 27 134217727) rfl rfl (any_of HT_.out (by kernel_rfl)) (fun _ _ _ h => h) (Or.inl ⟨by rfl, ?_⟩) ?_ ?_
   rotate_left
   ·intro w'
    go_simp
    with_reducible rfl
   rotate_left
   ·simp only [Act.put, zA10_, zB10_, zC10_, i64_w, i32_w]
    rfl
   refine done_ (done_of HT_.out (by kernel_rfl)) ?_
   try go_wp2
   go_ret
   exact ⟨by first | rfl | (simp [errW_none, errW_some] <;> rfl) | (simp [*, errW_none, errW_some] <;> rfl), by repeat (first | (with_reducible first | exact HB.out | apply below_alloc | apply pw_below_drewN | apply below_drew1 | refine below_set ?_ GE171.out) | exact HB.out)⟩
 ·rw [if_neg c7] at H
  have c7b0 : (t188.toList == ([3, 3, 1, 2, 49, 50, 51, 52, 53, 54, 55, 56, 2, 120, 121] : List UInt8)) = false := beq_eq_false_iff_ne.mpr c7
  have c7b1 : (t188.toList != ([3, 3, 1, 2, 49, 50, 51, 52, 53, 54, 55, 56, 2, 120, 121] : List UInt8)) = true := bne_iff_ne.mpr c7
  obtain rfl := Option.some.inj H
  go_enter Try.func14, Try.ntmps14
  try go_wp2_with (first | ((with_reducible refine gate_callee (f := 25) rfl ?_); refine goesL_ (some 5) rfl rfl Try.func25 (by kernel_rfl) rfl #[] rfl (by (try simp only [List.map_toArray, List.map_cons, List.map_nil]); first | done | rfl | (simp only [List.length_drop, List.length_take]; rfl)) ?_; (with_reducible refine (wapentakelaw04_some.calls  t143 t144 t145 t146 t147 t148 t149 t150 t151 t152 t153 t154 t155 _ A1.out).mono ?_); rintro e w68 ⟨rfl, hb⟩; refine ⟨_, rfl, ?_⟩; have n0_ := Aside0.mk (below_step (by repeat (first | (with_reducible first | exact HB.out | apply below_alloc | apply pw_below_drewN | apply below_drew1) | exact HB.out)) hb); clear HB; have HB := n0_; clear n0_; (try clear hb); (try clear hb2); (try clear hk); (try clear hi)) | ((with_reducible refine gate_callee (f := 9) rfl ?_); refine goesL_ (some 6) rfl rfl Try.func9 (by kernel_rfl) rfl #[.agg #[.int .u64 t143, .int .u64 t144, .int .u8 t145, .int .u8 t146, .int .u8 t147, .int .u8 t148, .int .u8 t149, .int .u8 t150, .int .u8 t151, .int .u8 t152, .int .u8 t153, .int .u8 t154, .string t155]] rfl (by (try simp only [List.map_toArray, List.map_cons, List.map_nil]); first | done | rfl | (simp only [List.length_drop, List.length_take]; rfl)) ?_; (with_reducible refine (entry_Write.calls k t143 t144 t145 t146 t147 t148 t149 t150 t151 t152 t153 t154 t155 t156 _ A2.out).mono ?_); rintro e w69 ⟨rfl, hb⟩; refine ⟨_, rfl, ?_⟩; have n0_ := Aside0.mk (below_step (by repeat (first | (with_reducible first | exact HB.out | apply below_alloc | apply pw_below_drewN | apply below_drew1) | exact HB.out)) hb); clear HB; have HB := n0_; clear n0_; (try clear hb); (try clear hb2); (try clear hk); (try clear hi)) | ((with_reducible refine gate_callee (f := 11) rfl ?_); refine goesL_ (some 7) rfl rfl Try.func11 (by kernel_rfl) rfl #[.string t156] rfl (by (try simp only [List.map_toArray, List.map_cons, List.map_nil]); first | done | rfl | (simp only [List.length_drop, List.length_take]; rfl)) ?_; (with_reducible refine (entry_Read.calls k t156 t157 t158 t159 t160 t161 t162 t163 t164 t165 t166 t167 t168 t169 t170 _ A3.out).mono ?_); rintro e w70 ⟨rfl, hb⟩; refine ⟨_, rfl, ?_⟩; have n0_ := Aside0.mk (below_step (by repeat (first | (with_reducible first | exact HB.out | apply below_alloc | apply pw_below_drewN | apply below_drew1) | exact HB.out)) hb); clear HB; have HB := n0_; clear n0_; (try clear hb); (try clear hb2); (try clear hk); (try clear hi)) | ((with_reducible refine gate_dst (N := 1) rfl ?_); (try (refine gate_guard (by rfl) ?_; dsimp only)); refine box_event ?hg (N := 1) ?hd (cs := #[.int .u64 0, .int .u64 0, .int .u8 0, .int .u8 0, .int .u8 0, .int .u8 0, .int .u8 0, .int .u8 0, .int .u8 0, .int .u8 0, .int .u8 0, .int .u8 0, .string (⟨#[]⟩ : ByteArray)]) (t := 27) ?hr ?_; (case hd => rfl); (case hg => rfl); (case hr => first | (go_simp; done) | (go_simp; rfl)); intro gb171 hg w71 hbox hb; have n0_ := Aside0.mk (below_step (by repeat (first | (with_reducible first | exact HB.out | apply below_alloc | apply pw_below_drewN | apply below_drew1) | exact HB.out)) hb); have n1_ := Aside0.mk (hbox); have n2_ := Aside0.mk ((by rw [hg]; exact (below_size (by repeat (first | (with_reducible first | exact HB.out | apply below_alloc | apply pw_below_drewN | apply below_drew1) | exact HB.out))) : w.heap.size ≤ gb171)); have n3_ := Aside0.mk ((by rw [hg]; exact (below_size (by repeat (first | (with_reducible first | exact HB.out | apply below_alloc | apply pw_below_drewN | apply below_drew1) | exact HB.out))) : w.heap.size ≤ gb171)); clear HB; have HB := n0_; have BK171 := n1_; have GW171 := n2_; have GE171 := n3_; clear n0_ n1_ n2_ n3_; clear hb hbox hg; have hcz72_0 : w71.cell? ⟨gb171, 0, none⟩ = some (.int .u64 0) := (blk_cell BK171.out 0).trans rfl; have hcz72_1 : w71.cell? ⟨gb171, 1, none⟩ = some (.int .u64 0) := (blk_cell BK171.out 1).trans rfl; have hcz72_2 : w71.cell? ⟨gb171, 2, none⟩ = some (.int .u8 0) := (blk_cell BK171.out 2).trans rfl; have hcz72_3 : w71.cell? ⟨gb171, 3, none⟩ = some (.int .u8 0) := (blk_cell BK171.out 3).trans rfl; have hcz72_4 : w71.cell? ⟨gb171, 4, none⟩ = some (.int .u8 0) := (blk_cell BK171.out 4).trans rfl; have hcz72_5 : w71.cell? ⟨gb171, 5, none⟩ = some (.int .u8 0) := (blk_cell BK171.out 5).trans rfl; have hcz72_6 : w71.cell? ⟨gb171, 6, none⟩ = some (.int .u8 0) := (blk_cell BK171.out 6).trans rfl; have hcz72_7 : w71.cell? ⟨gb171, 7, none⟩ = some (.int .u8 0) := (blk_cell BK171.out 7).trans rfl; have hcz72_8 : w71.cell? ⟨gb171, 8, none⟩ = some (.int .u8 0) := (blk_cell BK171.out 8).trans rfl; have hcz72_9 : w71.cell? ⟨gb171, 9, none⟩ = some (.int .u8 0) := (blk_cell BK171.out 9).trans rfl; have hcz72_10 : w71.cell? ⟨gb171, 10, none⟩ = some (.int .u8 0) := (blk_cell BK171.out 10).trans rfl; have hcz72_11 : w71.cell? ⟨gb171, 11, none⟩ = some (.int .u8 0) := (blk_cell BK171.out 11).trans rfl; have hcz72_12 : w71.cell? ⟨gb171, 12, none⟩ = some (.string (⟨#[]⟩ : ByteArray)) := (blk_cell BK171.out 12).trans rfl; have hfz72_0 := blk_frozen BK171.out 0; have hfz72_1 := blk_frozen BK171.out 1; have hfz72_2 := blk_frozen BK171.out 2; have hfz72_3 := blk_frozen BK171.out 3; have hfz72_4 := blk_frozen BK171.out 4; have hfz72_5 := blk_frozen BK171.out 5; have hfz72_6 := blk_frozen BK171.out 6; have hfz72_7 := blk_frozen BK171.out 7; have hfz72_8 := blk_frozen BK171.out 8; have hfz72_9 := blk_frozen BK171.out 9; have hfz72_10 := blk_frozen BK171.out 10; have hfz72_11 := blk_frozen BK171.out 11; have hfz72_12 := blk_frozen BK171.out 12) | ((with_reducible refine gate_callee (f := 13) rfl ?_); refine goesL_ (some 10) rfl rfl Try.func13 (by kernel_rfl) rfl #[.int .u8 13] rfl (by (try simp only [List.map_toArray, List.map_cons, List.map_nil]); first | done | rfl | (simp only [List.length_drop, List.length_take]; rfl)) ?_; (with_reducible refine (entry_Members.calls k 13 t172 _ A4.out).mono ?_); rintro e w73 ⟨v173, rfl, ho0, hb⟩; refine ⟨_, rfl, ?_⟩; have n0_ := Aside0.mk (Kd.R_lower ho0 (below_size (by repeat (first | (with_reducible first | exact HB.out | apply below_alloc | apply pw_below_drewN | apply below_drew1 | refine below_set ?_ GE171.out) | exact HB.out)))); have n1_ := Aside0.mk (blk_below (g := gb171) (o := .cells #[.int .u64 t157, .int .u64 t158, .int .u8 t159, .int .u8 t160, .int .u8 t161, .int .u8 t162, .int .u8 t163, .int .u8 t164, .int .u8 t165, .int .u8 t166, .int .u8 t167, .int .u8 t168, .string t169] 27 (0, 0)) (by (with_reducible repeat (first | refine blk_drewN ?_ _ | refine blk_drew ?_ | refine blk_alloc ?_ _)); refine blk_put (cs := #[.int .u64 t157, .int .u64 t158, .int .u8 t159, .int .u8 t160, .int .u8 t161, .int .u8 t162, .int .u8 t163, .int .u8 t164, .int .u8 t165, .int .u8 t166, .int .u8 t167, .int .u8 t168, .string (⟨#[]⟩ : ByteArray)]) ?_ 12 _ rfl; (with_reducible repeat (first | refine blk_drewN ?_ _ | refine blk_drew ?_ | refine blk_alloc ?_ _)); refine blk_put (cs := #[.int .u64 t157, .int .u64 t158, .int .u8 t159, .int .u8 t160, .int .u8 t161, .int .u8 t162, .int .u8 t163, .int .u8 t164, .int .u8 t165, .int .u8 t166, .int .u8 t167, .int .u8 0, .string (⟨#[]⟩ : ByteArray)]) ?_ 11 _ rfl; (with_reducible repeat (first | refine blk_drewN ?_ _ | refine blk_drew ?_ | refine blk_alloc ?_ _)); refine blk_put (cs := #[.int .u64 t157, .int .u64 t158, .int .u8 t159, .int .u8 t160, .int .u8 t161, .int .u8 t162, .int .u8 t163, .int .u8 t164, .int .u8 t165, .int .u8 t166, .int .u8 0, .int .u8 0, .string (⟨#[]⟩ : ByteArray)]) ?_ 10 _ rfl; (with_reducible repeat (first | refine blk_drewN ?_ _ | refine blk_drew ?_ | refine blk_alloc ?_ _)); refine blk_put (cs := #[.int .u64 t157, .int .u64 t158, .int .u8 t159, .int .u8 t160, .int .u8 t161, .int .u8 t162, .int .u8 t163, .int .u8 t164, .int .u8 t165, .int .u8 0, .int .u8 0, .int .u8 0, .string (⟨#[]⟩ : ByteArray)]) ?_ 9 _ rfl; (with_reducible repeat (first | refine blk_drewN ?_ _ | refine blk_drew ?_ | refine blk_alloc ?_ _)); refine blk_put (cs := #[.int .u64 t157, .int .u64 t158, .int .u8 t159, .int .u8 t160, .int .u8 t161, .int .u8 t162, .int .u8 t163, .int .u8 t164, .int .u8 0, .int .u8 0, .int .u8 0, .int .u8 0, .string (⟨#[]⟩ : ByteArray)]) ?_ 8 _ rfl; (with_reducible repeat (first | refine blk_drewN ?_ _ | refine blk_drew ?_ | refine blk_alloc ?_ _)); refine blk_put (cs := #[.int .u64 t157, .int .u64 t158, .int .u8 t159, .int .u8 t160, .int .u8 t161, .int .u8 t162, .int .u8 t163, .int .u8 0, .int .u8 0, .int .u8 0, .int .u8 0, .int .u8 0, .string (⟨#[]⟩ : ByteArray)]) ?_ 7 _ rfl; (with_reducible repeat (first | refine blk_drewN ?_ _ | refine blk_drew ?_ | refine blk_alloc ?_ _)); refine blk_put (cs := #[.int .u64 t157, .int .u64 t158, .int .u8 t159, .int .u8 t160, .int .u8 t161, .int .u8 t162, .int .u8 0, .int .u8 0, .int .u8 0, .int .u8 0, .int .u8 0, .int .u8 0, .string (⟨#[]⟩ : ByteArray)]) ?_ 6 _ rfl; (with_reducible repeat (first | refine blk_drewN ?_ _ | refine blk_drew ?_ | refine blk_alloc ?_ _)); refine blk_put (cs := #[.int .u64 t157, .int .u64 t158, .int .u8 t159, .int .u8 t160, .int .u8 t161, .int .u8 0, .int .u8 0, .int .u8 0, .int .u8 0, .int .u8 0, .int .u8 0, .int .u8 0, .string (⟨#[]⟩ : ByteArray)]) ?_ 5 _ rfl; (with_reducible repeat (first | refine blk_drewN ?_ _ | refine blk_drew ?_ | refine blk_alloc ?_ _)); refine blk_put (cs := #[.int .u64 t157, .int .u64 t158, .int .u8 t159, .int .u8 t160, .int .u8 0, .int .u8 0, .int .u8 0, .int .u8 0, .int .u8 0, .int .u8 0, .int .u8 0, .int .u8 0, .string (⟨#[]⟩ : ByteArray)]) ?_ 4 _ rfl; (with_reducible repeat (first | refine blk_drewN ?_ _ | refine blk_drew ?_ | refine blk_alloc ?_ _)); refine blk_put (cs := #[.int .u64 t157, .int .u64 t158, .int .u8 t159, .int .u8 0, .int .u8 0, .int .u8 0, .int .u8 0, .int .u8 0, .int .u8 0, .int .u8 0, .int .u8 0, .int .u8 0, .string (⟨#[]⟩ : ByteArray)]) ?_ 3 _ rfl; (with_reducible repeat (first | refine blk_drewN ?_ _ | refine blk_drew ?_ | refine blk_alloc ?_ _)); refine blk_put (cs := #[.int .u64 t157, .int .u64 t158, .int .u8 0, .int .u8 0, .int .u8 0, .int .u8 0, .int .u8 0, .int .u8 0, .int .u8 0, .int .u8 0, .int .u8 0, .int .u8 0, .string (⟨#[]⟩ : ByteArray)]) ?_ 2 _ rfl; (with_reducible repeat (first | refine blk_drewN ?_ _ | refine blk_drew ?_ | refine blk_alloc ?_ _)); refine blk_put (cs := #[.int .u64 t157, .int .u64 0, .int .u8 0, .int .u8 0, .int .u8 0, .int .u8 0, .int .u8 0, .int .u8 0, .int .u8 0, .int .u8 0, .int .u8 0, .int .u8 0, .string (⟨#[]⟩ : ByteArray)]) ?_ 1 _ rfl; (with_reducible repeat (first | refine blk_drewN ?_ _ | refine blk_drew ?_ | refine blk_alloc ?_ _)); refine blk_put (cs := #[.int .u64 0, .int .u64 0, .int .u8 0, .int .u8 0, .int .u8 0, .int .u8 0, .int .u8 0, .int .u8 0, .int .u8 0, .int .u8 0, .int .u8 0, .int .u8 0, .string (⟨#[]⟩ : ByteArray)]) ?_ 0 _ rfl; (with_reducible repeat (first | refine blk_drewN ?_ _ | refine blk_drew ?_ | refine blk_alloc ?_ _)); exact BK171.out) hb); have n2_ := Aside0.mk (below_step (by repeat (first | (with_reducible first | exact HB.out | apply below_alloc | apply pw_below_drewN | apply below_drew1 | refine below_set ?_ GE171.out) | exact HB.out)) hb); clear BK171; clear HB; have HO174 := n0_; have BK171 := n1_; have HB := n2_; clear n0_ n1_ n2_; (try clear hb); (try clear hb2); (try clear hk); (try clear hi); (try clear ho0)))
  have n0_ := Aside0.mk (Kd.R_drew HO174.out)
  have n1_ := Aside0.mk (blk_drew BK171.out)
  have n2_ := Aside0.mk (below_drew1 HB.out)
  clear HO174
  clear BK171
  clear HB
  have HO174 := n0_
  have BK171 := n1_
  have HB := n2_
  clear n0_ n1_ n2_
  refine start_ (n := 27) (S := fun w' => True) (ds := []) #[false, false, false, false, false, false, false, false, false, false, false, false, false, false, false, false, false, false, false, false, false, false, false, false, false, false, false] (by kernel_rfl) rfl rfl trivial (fun hHeld => ?_); refine with_tabW wapentakelaw04_awake.tab3 wapentakelaw04_awake.bits3 (fun HT_ HW_ => ?_)
  generalize w73.drew = w74 at HO174 BK171 HB hHeld ⊢
  refine one_ (i := 0) (N := some 11) (bq_10_ 27 1) rfl rfl (one_of HT_.out (by kernel_rfl)) (by decide) (fun K hK => ?_)
  refine goes_ Try.func25 (by kernel_rfl) rfl #[] (by rfl) rfl rfl (by (try simp only [List.map_toArray, List.map_cons, List.map_nil]); first | done | rfl | (simp only [List.length_drop, List.length_take]; rfl)) ?_
  with_reducible refine (wapentakelaw04_some.calls  t175 t176 t177 t178 t179 t180 t181 t182 t183 t184 t185 t186 t187 _ A5.out).mono ?_
  rintro e w75 ⟨rfl, hb⟩
  refine ⟨_, rfl, ?_⟩
  have n0_ := Aside0.mk (Kd.R_below (by (with_reducible repeat (first | apply Kd.R_alloc | apply Kd.R_drewN | apply Kd.R_drew)); exact HO174.out) hb)
  have n1_ := Aside0.mk (blk_below (g := gb171) (o := .cells #[.int .u64 t157, .int .u64 t158, .int .u8 t159, .int .u8 t160, .int .u8 t161, .int .u8 t162, .int .u8 t163, .int .u8 t164, .int .u8 t165, .int .u8 t166, .int .u8 t167, .int .u8 t168, .string t169] 27 (0, 0)) (by (with_reducible repeat (first | refine blk_drewN ?_ _ | refine blk_drew ?_ | refine blk_alloc ?_ _)); exact BK171.out) hb)
  have n2_ := Aside0.mk (below_step (by repeat (first | (with_reducible first | exact HB.out | apply below_alloc | apply pw_below_drewN | apply below_drew1 | refine below_set ?_ GE171.out) | exact HB.out)) hb)
  clear HO174
  clear BK171
  clear HB
  have HO174 := n0_
  have BK171 := n1_
  have HB := n2_
  clear n0_ n1_ n2_
  (try clear hb)
  (try clear hb2)
  (try clear hk)
  (try clear hi)
  refine hK.out _ _ trivial (fun hHeld => ?_)
  clear hK K
  refine norm_ (a' := ?_) ?_ ?_
  rotate_left
  ·show Act.put _ (some 11) _ = _
   simp only [Act.put, zA10_, zB10_, zC10_, i64_w, i32_w]
   rfl
  refine one_ (i := 1) (N := some 12) (bq_10_ 27 3) rfl rfl (one_of HT_.out (by kernel_rfl)) (by decide) (fun K hK => ?_)
  refine goes_ Try.func9 (by kernel_rfl) rfl #[.agg #[.int .u64 t175, .int .u64 t176, .int .u8 t177, .int .u8 t178, .int .u8 t179, .int .u8 t180, .int .u8 t181, .int .u8 t182, .int .u8 t183, .int .u8 t184, .int .u8 t185, .int .u8 t186, .string t187]] (by rfl) rfl rfl (by (try simp only [List.map_toArray, List.map_cons, List.map_nil]); first | done | rfl | (simp only [List.length_drop, List.length_take]; rfl)) ?_
  with_reducible refine (entry_Write.calls k t175 t176 t177 t178 t179 t180 t181 t182 t183 t184 t185 t186 t187 t188 _ A6.out).mono ?_
  rintro e w76 ⟨rfl, hb⟩
  refine ⟨_, rfl, ?_⟩
  have n0_ := Aside0.mk (Kd.R_below (by (with_reducible repeat (first | apply Kd.R_alloc | apply Kd.R_drewN | apply Kd.R_drew)); exact HO174.out) hb)
  have n1_ := Aside0.mk (blk_below (g := gb171) (o := .cells #[.int .u64 t157, .int .u64 t158, .int .u8 t159, .int .u8 t160, .int .u8 t161, .int .u8 t162, .int .u8 t163, .int .u8 t164, .int .u8 t165, .int .u8 t166, .int .u8 t167, .int .u8 t168, .string t169] 27 (0, 0)) (by (with_reducible repeat (first | refine blk_drewN ?_ _ | refine blk_drew ?_ | refine blk_alloc ?_ _)); exact BK171.out) hb)
  have n2_ := Aside0.mk (below_step (by repeat (first | (with_reducible first | exact HB.out | apply below_alloc | apply pw_below_drewN | apply below_drew1 | refine below_set ?_ GE171.out) | exact HB.out)) hb)
  clear HO174
  clear BK171
  clear HB
  have HO174 := n0_
  have BK171 := n1_
  have HB := n2_
  clear n0_ n1_ n2_
  (try clear hb)
  (try clear hb2)
  (try clear hk)
  (try clear hi)
  refine hK.out _ _ trivial (fun hHeld => ?_)
  clear hK K
  refine norm_ (a' := ?_) ?_ ?_
  rotate_left
  ·show Act.put _ (some 12) _ = _
   simp only [Act.put, zA10_, zB10_, zC10_, i64_w, i32_w]
   rfl
  refine pure_ (i := 2) (N := some 13) (v := ?_) (a' := ?_) (bq_10_ 27 7) rfl rfl (any_of HT_.out (by kernel_rfl)) (fun _ _ _ h => h) (Or.inl ⟨by rfl, ?_⟩) ?_ ?_
  rotate_left
  ·intro w'
   go_simp
   with_reducible rfl
  rotate_left
  ·simp only [Act.put, zA10_, zB10_, zC10_, i64_w, i32_w]
   rfl
  refine pure_ (i := 3) (N := some 14) (v := ?_) (a' := ?_) (bq_10_ 27 15) rfl rfl (any_of HT_.out (by kernel_rfl)) (fun _ _ _ h => h) (Or.inl ⟨by rfl, ?_⟩) ?_ ?_
  rotate_left
  ·intro w'
   go_simp
   with_reducible rfl
  rotate_left
  ·simp only [Act.put, zA10_, zB10_, zC10_, i64_w, i32_w]
   rfl
  refine pure_ (i := 4) (N := some 15) (v := undef) (a' := ?_) (bq_10_ 27 31) rfl rfl (any_of HT_.out (by kernel_rfl)) (fun _ _ _ h => h) (Or.inr ⟨by rfl, rfl⟩) ?_ ?_
  rotate_left
  ·simp only [Act.put, zA10_, zB10_, zC10_, i64_w, i32_w]
   rfl
  refine pure_ (i := 5) (N := some 16) (v := ?_) (a' := ?_) (bq_10_ 27 63) rfl rfl (any_of HT_.out (by kernel_rfl)) (fun _ _ _ h => h) (Or.inl ⟨by rfl, ?_⟩) ?_ ?_
  rotate_left
  ·intro w'
   go_simp
   with_reducible rfl
  rotate_left
  ·simp only [Act.put, zA10_, zB10_, zC10_, i64_w, i32_w]
   rfl
  refine pure_ (i := 6) (N := some 17) (v := ?_) (a' := ?_) (bq_10_ 27 127) rfl rfl (any_of HT_.out (by kernel_rfl)) (fun _ _ _ h => h) (Or.inl ⟨by rfl, ?_⟩) ?_ ?_
  rotate_left
  ·intro w'
   go_simp
   with_reducible rfl
  rotate_left
  ·simp only [Act.put, zA10_, zB10_, zC10_, i64_w, i32_w]
   rfl
  refine pure_ (i := 7) (N := some 18) (v := undef) (a' := ?_) (bq_10_ 27 255) rfl rfl (any_of HT_.out (by kernel_rfl)) (fun _ _ _ h => h) (Or.inr ⟨by rfl, rfl⟩) ?_ ?_
  rotate_left
  ·simp only [Act.put, zA10_, zB10_, zC10_, i64_w, i32_w]
   rfl
  refine pure_ (i := 8) (N := some 19) (v := undef) (a' := ?_) (bq_10_ 27 511) rfl rfl (any_of HT_.out (by kernel_rfl)) (fun _ _ _ h => h) (Or.inr ⟨by rfl, rfl⟩) ?_ ?_
  rotate_left
  ·simp only [Act.put, zA10_, zB10_, zC10_, i64_w, i32_w]
   rfl
  refine pure_ (i := 9) (N := some 20) (v := undef) (a' := ?_) (bq_10_ 27 1023) rfl rfl (any_of HT_.out (by kernel_rfl)) (fun _ _ _ h => h) (Or.inr ⟨by rfl, rfl⟩) ?_ ?_
  rotate_left
  ·simp only [Act.put, zA10_, zB10_, zC10_, i64_w, i32_w]
   rfl
  refine pure_ (i := 10) (N := some 21) (v := ?_) (a' := ?_) (bq_10_ 27 2047) rfl rfl (any_of HT_.out (by kernel_rfl)) (fun _ _ _ h => h) (Or.inl ⟨by rfl, ?_⟩) ?_ ?_
  rotate_left
  ·intro w'
   go_simp
   with_reducible rfl
  rotate_left
  ·simp only [Act.put, zA10_, zB10_, zC10_, i64_w, i32_w]
   rfl
  refine pure_ (i := 11) (N := some 22) (v := ?_) (a' := ?_) (bq_10_ 27 4095) rfl rfl (any_of HT_.out (by kernel_rfl)) (fun _ _ _ h => h) (Or.inl ⟨by rfl, ?_⟩) ?_ ?_
  rotate_left
  ·intro w'
   go_simp
   with_reducible rfl
  rotate_left
  ·simp only [Act.put, zA10_, zB10_, zC10_, i64_w, i32_w]
   rfl
  refine pure_ (i := 12) (N := some 23) (v := undef) (a' := ?_) (bq_10_ 27 8191) rfl rfl (any_of HT_.out (by kernel_rfl)) (fun _ _ _ h => h) (Or.inr ⟨by rfl, rfl⟩) ?_ ?_
  rotate_left
  ·simp only [Act.put, zA10_, zB10_, zC10_, i64_w, i32_w]
   rfl
  refine pure_ (i := 13) (N := some 24) (v := undef) (a' := ?_) (bq_10_ 27 16383) rfl rfl (any_of HT_.out (by kernel_rfl)) (fun _ _ _ h => h) (Or.inr ⟨by rfl, rfl⟩) ?_ ?_
  rotate_left
  ·simp only [Act.put, zA10_, zB10_, zC10_, i64_w, i32_w]
   rfl
  refine pure_ (i := 14) (N := some 25) (v := undef) (a' := ?_) (bq_10_ 27 32767) rfl rfl (any_of HT_.out (by kernel_rfl)) (fun _ _ _ h => h) (Or.inr ⟨by rfl, rfl⟩) ?_ ?_
  rotate_left
  ·simp only [Act.put, zA10_, zB10_, zC10_, i64_w, i32_w]
   rfl
  refine pure_ (i := 15) (N := some 26) (v := ?_) (a' := ?_) (bq_10_ 27 65535) rfl rfl (any_of HT_.out (by kernel_rfl)) (fun _ _ _ h => h) (Or.inl ⟨by rfl, ?_⟩) ?_ ?_
  rotate_left
  ·intro w'
   go_simp
   with_reducible rfl
  rotate_left
  ·simp only [Act.put, zA10_, zB10_, zC10_, i64_w, i32_w]
   rfl
  refine pure_ (i := 16) (N := some 27) (v := ?_) (a' := ?_) (bq_10_ 27 131071) rfl rfl (any_of HT_.out (by kernel_rfl)) (fun _ _ _ h => h) (Or.inl ⟨by rfl, ?_⟩) ?_ ?_
  rotate_left
  ·intro w'
   go_simp
   with_reducible rfl
  rotate_left
  ·simp only [Act.put, zA10_, zB10_, zC10_, i64_w, i32_w]
   rfl
  refine pure_ (i := 17) (N := some 28) (v := undef) (a' := ?_) (bq_10_ 27 262143) rfl rfl (any_of HT_.out (by kernel_rfl)) (fun _ _ _ h => h) (Or.inr ⟨by rfl, rfl⟩) ?_ ?_
  rotate_left
  ·simp only [Act.put, zA10_, zB10_, zC10_, i64_w, i32_w]
   rfl
  refine pure_ (i := 18) (N := some 29) (v := undef) (a' := ?_) (bq_10_ 27 524287) rfl rfl (any_of HT_.out (by kernel_rfl)) (fun _ _ _ h => h) (Or.inr ⟨by rfl, rfl⟩) ?_ ?_
  rotate_left
  ·simp only [Act.put, zA10_, zB10_, zC10_, i64_w, i32_w]
   rfl
  refine pure_ (i := 19) (N := some 30) (v := undef) (a' := ?_) (bq_10_ 27 1048575) rfl rfl (any_of HT_.out (by kernel_rfl)) (fun _ _ _ h => h) (Or.inr ⟨by rfl, rfl⟩) ?_ ?_
  rotate_left
  ·simp only [Act.put, zA10_, zB10_, zC10_, i64_w, i32_w]
   rfl
  refine pure_ (i := 20) (N := some 31) (v := undef) (a' := ?_) (bq_10_ 27 2097151) rfl rfl (any_of HT_.out (by kernel_rfl)) (fun _ _ _ h => h) (Or.inr ⟨by rfl, rfl⟩) ?_ ?_
  rotate_left
  ·simp only [Act.put, zA10_, zB10_, zC10_, i64_w, i32_w]
   rfl
  refine pure_ (i := 21) (N := some 32) (v := ?_) (a' := ?_) (bq_10_ 27 4194303) rfl rfl (any_of HT_.out (by kernel_rfl)) (fun _ _ _ h => h) (Or.inl ⟨by rfl, ?_⟩) ?_ ?_
  rotate_left
  ·intro w'
   go_simp
   with_reducible rfl
  rotate_left
  ·simp only [Act.put, zA10_, zB10_, zC10_, i64_w, i32_w]
   rfl
  refine pure_ (i := 22) (N := some 33) (v := ?_) (a' := ?_) (bq_10_ 27 8388607) rfl rfl (any_of HT_.out (by kernel_rfl)) (fun _ _ _ h => h) (Or.inl ⟨by rfl, ?_⟩) ?_ ?_
  rotate_left
  ·intro w'
   go_simp
   with_reducible rfl
  rotate_left
  ·simp only [Act.put, zA10_, zB10_, zC10_, i64_w, i32_w]
   rfl
  refine pure_ (i := 23) (N := some 34) (v := undef) (a' := ?_) (bq_10_ 27 16777215) rfl rfl (any_of HT_.out (by kernel_rfl)) (fun _ _ _ h => h) (Or.inr ⟨by rfl, rfl⟩) ?_ ?_
  rotate_left
  ·simp only [Act.put, zA10_, zB10_, zC10_, i64_w, i32_w]
   rfl
  refine pure_ (i := 24) (N := some 35) (v := undef) (a' := ?_) (bq_10_ 27 33554431) rfl rfl (any_of HT_.out (by kernel_rfl)) (fun _ _ _ h => h) (Or.inr ⟨by rfl, rfl⟩) ?_ ?_
  rotate_left
  ·simp only [Act.put, zA10_, zB10_, zC10_, i64_w, i32_w]
   rfl
  refine pure_ (i := 25) (N := some 36) (v := ?_) (a' := ?_) (bq_10_ 27 67108863) rfl rfl (any_of HT_.out (by kernel_rfl)) (fun _ _ _ h => h) (Or.inl ⟨by rfl, ?_⟩) ?_ ?_
  rotate_left
  ·intro w'
   go_simp
   with_reducible rfl
  rotate_left
  ·simp only [Act.put, zA10_, zB10_, zC10_, i64_w, i32_w]
   rfl
  refine pure_ (i := 26) (N := some 0) (v := ?_) (a' := ?_) (bq_10_ 27 134217727) rfl rfl (any_of HT_.out (by kernel_rfl)) (fun _ _ _ h => h) (Or.inl ⟨by rfl, ?_⟩) ?_ ?_
  rotate_left
  ·intro w'
   go_simp
   with_reducible rfl
  rotate_left
  ·simp only [Act.put, zA10_, zB10_, zC10_, i64_w, i32_w]
   rfl
  refine done_ (done_of HT_.out (by kernel_rfl)) ?_
  try go_wp2
  go_ret
  exact ⟨by first | rfl | (simp [errW_none, errW_some] <;> rfl) | (simp [*, errW_none, errW_some] <;> rfl), by repeat (first | (with_reducible first | exact HB.out | apply below_alloc | apply pw_below_drewN | apply below_drew1 | refine below_set ?_ GE171.out) | exact HB.out)⟩

end Go.Proofs.Ytimfgflcflhfcaa.P
