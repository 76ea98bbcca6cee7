-- Written by wip/tools/myprint.sh out of the translation, over the kit's print with a patch. Not trusted: Lean checks it.
import Derived.Test.YtimfgflcflhfcaaPx0
import Derived.Test.YtimfgflcflhfcaaPx2
import Derived.Test.YtimfgflcflhfcaaPx3
import Derived.Test.YtimfgflcflhfcaaPx5
import Derived.Test.YtimfgflcflhfcaaPx7
import Derived.Test.YtimfgflcflhfcaaPx10
namespace Go.Proofs.Ytimfgflcflhfcaa.P
open Go.RowKit Go.Proofs.YtimfgflcflhfcaaW.PrintWords Go.Proofs.YtimfgflcflhfcaaW.PrintLast Go.Proofs.YtimfgflcflhfcaaW.PrintMore Go.Proofs.Ytimfgflcflhfcaa.Num
attribute [local go_sem] max2_int min2_int max_two min_two max_three min_three max_four min_four   -- for this text's walks alone
set_option linter.unusedVariables false
set_option linter.unusedSimpArgs false

attribute [local go_sem high] eqA27
def bq_22_ (n m : Nat) : Array Bool := ((List.range n).map fun i => m.testBit i).toArray
theorem zA22_ {α : Type} (l : List α) (i : Nat) (a : α) : l.toArray.setIfInBounds i a = (l.set i a).toArray := List.setIfInBounds_toArray ..
theorem zB22_ {α : Type} (a b : α) (l : List α) : (a :: l).set 0 b = b :: l := List.set_cons_zero ..
theorem zC22_ {α : Type} (a b : α) (l : List α) (n : Nat) : (a :: l).set (n + 1) b = a :: l.set n b := List.set_cons_succ ..
/-! ### wapentakelaw04_EntryBack: function 7 -/
mutual
def wapentakelaw04_EntryBack.j0 : Nat → ByteArray → Int → ByteArray → Bool → Int → Int → Int → Int → Int → Int → Int → Int → Int → Int → Int → Int → ByteArray → Option (Bool)
 | 0, _, _, _, _, _, _, _, _, _, _, _, _, _, _, _, _, _ => none
 | k + 1, x1, x2, x3, x26, x388000, x388001, x388002, x388003, x388004, x388005, x388006, x388007, x388008, x388009, x388010, x388011, x388012 => if x26 = true then ((wapentakelaw04_awake.f k).bind fun t388 => (some t388)) else (if (x1.size : Int) > 4000 then (if 0 ≤ 4000 then (if 4000 ≤ (x1.size : Int) then (wapentakelaw04_EntryBack.j1 k (x1.extract 0 4000) x2 x3 x388000 x388001 x388002 x388003 x388004 x388005 x388006 x388007 x388008 x388009 x388010 x388011 x388012) else (none)) else (none)) else (wapentakelaw04_EntryBack.j1 k x1 x2 x3 x388000 x388001 x388002 x388003 x388004 x388005 x388006 x388007 x388008 x388009 x388010 x388011 x388012))
def wapentakelaw04_EntryBack.j1 : Nat → ByteArray → Int → ByteArray → Int → Int → Int → Int → Int → Int → Int → Int → Int → Int → Int → Int → ByteArray → Option (Bool)
 | 0, _, _, _, _, _, _, _, _, _, _, _, _, _, _, _, _ => none
 | k + 1, x1, x2, x3, x388000, x388001, x388002, x388003, x388004, x388005, x388006, x388007, x388008, x388009, x388010, x388011, x388012 => (entry_Write.f k x388000 x388001 x388002 x388003 x388004 x388005 x388006 x388007 x388008 x388009 x388010 x388011 x388012).bind fun t389 => ((entry_Right.f k x388000 x388001 x388002 x388003 x388004 x388005 x388006 x388007 x388008 x388009 x388010 x388011 x388012).bind fun t390 => (if ((!t389.toList.isEmpty) != t390) = true then (some false) else (if t389.toList = ([] : List UInt8) then (wapentakelaw04_EntryBack.j2 k x1) else ((entry_Read.f k t389).bind fun bt391 => (if (t389.size : Int) = 0 then (none) else (if 0 ≤ (Int.tmod (wrap64 (x2)) (t389.size : Int)) then (if (Int.tmod (wrap64 (x2)) (t389.size : Int)) ≤ (t389.size : Int) then ((entry_Read.f k (t389.extract 0 ((Int.tmod (wrap64 (x2)) (t389.size : Int)) : Int).toNat)).bind fun bt406 => (if t389.size + x3.size ≤ 9223372036854775807 then ((entry_Read.f k (t389 ++ x3)).bind fun bt421 => (if bt391.2.2.2.2.2.2.2.2.2.2.2.2.2 = true then (if (!(bt391.1 == x388000) || (!(bt391.2.1 == x388001) || (!(bt391.2.2.1 == x388002) || (!(bt391.2.2.2.1 == x388003) || ((!(bt391.2.2.2.2.1 == x388004) || (!(bt391.2.2.2.2.2.1 == x388005) || (!(bt391.2.2.2.2.2.2.1 == x388006) || (!(bt391.2.2.2.2.2.2.2.1 == x388007) || (!(bt391.2.2.2.2.2.2.2.2.1 == x388008) || (!(bt391.2.2.2.2.2.2.2.2.2.1 == x388009) || (!(bt391.2.2.2.2.2.2.2.2.2.2.1 == x388010) || (!(bt391.2.2.2.2.2.2.2.2.2.2.2.1 == x388011))))))))) || (!(bt391.2.2.2.2.2.2.2.2.2.2.2.2.1.toList == x388012.toList))))))) = true then (some false) else (if bt406.2.2.2.2.2.2.2.2.2.2.2.2.2 = true then (some false) else (if (bt421.2.2.2.2.2.2.2.2.2.2.2.2.2 != x3.toList.isEmpty) = true then (some false) else (wapentakelaw04_EntryBack.j2 k x1)))) else (some false))) else (none))) else (none)) else (none)))))))
def wapentakelaw04_EntryBack.j2 : Nat → ByteArray → Option (Bool)
 | 0, _ => none
 | k + 1, x1 => (entry_Read.f k x1).bind fun bt436 => (if bt436.2.2.2.2.2.2.2.2.2.2.2.2.2 = true then ((entry_Right.f k bt436.1 bt436.2.1 bt436.2.2.1 bt436.2.2.2.1 bt436.2.2.2.2.1 bt436.2.2.2.2.2.1 bt436.2.2.2.2.2.2.1 bt436.2.2.2.2.2.2.2.1 bt436.2.2.2.2.2.2.2.2.1 bt436.2.2.2.2.2.2.2.2.2.1 bt436.2.2.2.2.2.2.2.2.2.2.1 bt436.2.2.2.2.2.2.2.2.2.2.2.1 bt436.2.2.2.2.2.2.2.2.2.2.2.2.1).bind fun t451 => (if t451 = true then ((entry_Write.f k bt436.1 bt436.2.1 bt436.2.2.1 bt436.2.2.2.1 bt436.2.2.2.2.1 bt436.2.2.2.2.2.1 bt436.2.2.2.2.2.2.1 bt436.2.2.2.2.2.2.2.1 bt436.2.2.2.2.2.2.2.2.1 bt436.2.2.2.2.2.2.2.2.2.1 bt436.2.2.2.2.2.2.2.2.2.2.1 bt436.2.2.2.2.2.2.2.2.2.2.2.1 bt436.2.2.2.2.2.2.2.2.2.2.2.2.1).bind fun t452 => (if t452.toList = x1.toList then ((wapentakelaw04_awake.f k).bind fun t453 => (some t453)) else (some false))) else (some false))) else (if (bt436.1 == 0 && (bt436.2.1 == 0 && (bt436.2.2.1 == 0 && (bt436.2.2.2.1 == 0 && ((bt436.2.2.2.2.1 == 0 && (bt436.2.2.2.2.2.1 == 0 && (bt436.2.2.2.2.2.2.1 == 0 && (bt436.2.2.2.2.2.2.2.1 == 0 && (bt436.2.2.2.2.2.2.2.2.1 == 0 && (bt436.2.2.2.2.2.2.2.2.2.1 == 0 && (bt436.2.2.2.2.2.2.2.2.2.2.1 == 0 && (bt436.2.2.2.2.2.2.2.2.2.2.2.1 == 0)))))))) && (bt436.2.2.2.2.2.2.2.2.2.2.2.2.1.toList.isEmpty)))))) = true then ((wapentakelaw04_awake.f k).bind fun t454 => (some t454)) else (some false)))
end
def wapentakelaw04_EntryBack.f (k : Nat) (a0_0 : Int) (a0_1 : Int) (a0_2 : Int) (a0_3 : Int) (a0_4 : Int) (a0_5 : Int) (a0_6 : Int) (a0_7 : Int) (a0_8 : Int) (a0_9 : Int) (a0_10 : Int) (a0_11 : Int) (a0_12 : ByteArray) (a1 : ByteArray) (a2 : Int) (a3 : ByteArray) : Option (Bool) := if (a0_12.size : Int) > 4000 then (wapentakelaw04_EntryBack.j0 k a1 a2 a3 true a0_0 a0_1 a0_2 a0_3 a0_4 a0_5 a0_6 a0_7 a0_8 a0_9 a0_10 a0_11 a0_12) else (wapentakelaw04_EntryBack.j0 k a1 a2 a3 (decide ((a3.size : Int) > 100)) a0_0 a0_1 a0_2 a0_3 a0_4 a0_5 a0_6 a0_7 a0_8 a0_9 a0_10 a0_11 a0_12)
theorem wapentakelaw04_EntryBack.mono_l : ∀ k, (∀ y0 y1 y2 y3 y4 y5 y6 y7 y8 y9 y10 y11 y12 y13 y14 y15 y16, LeO (wapentakelaw04_EntryBack.j0 k y0 y1 y2 y3 y4 y5 y6 y7 y8 y9 y10 y11 y12 y13 y14 y15 y16) (wapentakelaw04_EntryBack.j0 (k + 1) y0 y1 y2 y3 y4 y5 y6 y7 y8 y9 y10 y11 y12 y13 y14 y15 y16)) ∧ (∀ y0 y1 y2 y3 y4 y5 y6 y7 y8 y9 y10 y11 y12 y13 y14 y15, LeO (wapentakelaw04_EntryBack.j1 k y0 y1 y2 y3 y4 y5 y6 y7 y8 y9 y10 y11 y12 y13 y14 y15) (wapentakelaw04_EntryBack.j1 (k + 1) y0 y1 y2 y3 y4 y5 y6 y7 y8 y9 y10 y11 y12 y13 y14 y15)) ∧ (∀ y0, LeO (wapentakelaw04_EntryBack.j2 k y0) (wapentakelaw04_EntryBack.j2 (k + 1) y0))
 | 0 => ⟨fun _ _ _ _ _ _ _ _ _ _ _ _ _ _ _ _ _ r h => by simp [wapentakelaw04_EntryBack.j0] at h, fun _ _ _ _ _ _ _ _ _ _ _ _ _ _ _ _ r h => by simp [wapentakelaw04_EntryBack.j1] at h, fun _ r h => by simp [wapentakelaw04_EntryBack.j2] at h⟩
 | k + 1 => by
  obtain ⟨ih0, ih1, ih2⟩ := wapentakelaw04_EntryBack.mono_l k
  refine ⟨?_, ?_, ?_⟩
  ·intro y0 y1 y2 y3 y4 y5 y6 y7 y8 y9 y10 y11 y12 y13 y14 y15 y16
   unfold wapentakelaw04_EntryBack.j0
   repeat' first
   | (with_reducible exact ih0 _ _ _ _ _ _ _ _ _ _ _ _ _ _ _ _ _)
   | (with_reducible exact ih1 _ _ _ _ _ _ _ _ _ _ _ _ _ _ _ _)
   | (with_reducible exact ih2 _)
   | (with_reducible exact entry_Read.mono _ _)
   | (with_reducible exact entry_Right.mono _ _ _ _ _ _ _ _ _ _ _ _ _ _)
   | (with_reducible exact entry_Write.mono _ _ _ _ _ _ _ _ _ _ _ _ _ _)
   | (with_reducible exact wapentakelaw04_awake.mono _)
   | (with_reducible exact LeO.refl _)
   | (with_reducible exact LeO.none _)
   | (with_reducible refine LeO.ite ?_ ?_)
   | (with_reducible refine LeO.bind ?_ (fun _ => ?_))
   | exact ih0 _ _ _ _ _ _ _ _ _ _ _ _ _ _ _ _ _
   | exact ih1 _ _ _ _ _ _ _ _ _ _ _ _ _ _ _ _
   | exact ih2 _
   | exact entry_Read.mono _ _
   | exact entry_Right.mono _ _ _ _ _ _ _ _ _ _ _ _ _ _
   | exact entry_Write.mono _ _ _ _ _ _ _ _ _ _ _ _ _ _
   | exact wapentakelaw04_awake.mono _
   | exact LeO.none _
   | refine LeO.ite ?_ ?_
   | refine LeO.bind ?_ (fun _ => ?_)
  ·intro y0 y1 y2 y3 y4 y5 y6 y7 y8 y9 y10 y11 y12 y13 y14 y15
   unfold wapentakelaw04_EntryBack.j1
   repeat' first
   | (with_reducible exact ih0 _ _ _ _ _ _ _ _ _ _ _ _ _ _ _ _ _)
   | (with_reducible exact ih1 _ _ _ _ _ _ _ _ _ _ _ _ _ _ _ _)
   | (with_reducible exact ih2 _)
   | (with_reducible exact entry_Read.mono _ _)
   | (with_reducible exact entry_Right.mono _ _ _ _ _ _ _ _ _ _ _ _ _ _)
   | (with_reducible exact entry_Write.mono _ _ _ _ _ _ _ _ _ _ _ _ _ _)
   | (with_reducible exact wapentakelaw04_awake.mono _)
   | (with_reducible exact LeO.refl _)
   | (with_reducible exact LeO.none _)
   | (with_reducible refine LeO.ite ?_ ?_)
   | (with_reducible refine LeO.bind ?_ (fun _ => ?_))
   | exact ih0 _ _ _ _ _ _ _ _ _ _ _ _ _ _ _ _ _
   | exact ih1 _ _ _ _ _ _ _ _ _ _ _ _ _ _ _ _
   | exact ih2 _
   | exact entry_Read.mono _ _
   | exact entry_Right.mono _ _ _ _ _ _ _ _ _ _ _ _ _ _
   | exact entry_Write.mono _ _ _ _ _ _ _ _ _ _ _ _ _ _
   | exact wapentakelaw04_awake.mono _
   | exact LeO.none _
   | refine LeO.ite ?_ ?_
   | refine LeO.bind ?_ (fun _ => ?_)
  ·intro y0
   unfold wapentakelaw04_EntryBack.j2
   repeat' first
   | (with_reducible exact ih0 _ _ _ _ _ _ _ _ _ _ _ _ _ _ _ _ _)
   | (with_reducible exact ih1 _ _ _ _ _ _ _ _ _ _ _ _ _ _ _ _)
   | (with_reducible exact ih2 _)
   | (with_reducible exact entry_Read.mono _ _)
   | (with_reducible exact entry_Right.mono _ _ _ _ _ _ _ _ _ _ _ _ _ _)
   | (with_reducible exact entry_Write.mono _ _ _ _ _ _ _ _ _ _ _ _ _ _)
   | (with_reducible exact wapentakelaw04_awake.mono _)
   | (with_reducible exact LeO.refl _)
   | (with_reducible exact LeO.none _)
   | (with_reducible refine LeO.ite ?_ ?_)
   | (with_reducible refine LeO.bind ?_ (fun _ => ?_))
   | exact ih0 _ _ _ _ _ _ _ _ _ _ _ _ _ _ _ _ _
   | exact ih1 _ _ _ _ _ _ _ _ _ _ _ _ _ _ _ _
   | exact ih2 _
   | exact entry_Read.mono _ _
   | exact entry_Right.mono _ _ _ _ _ _ _ _ _ _ _ _ _ _
   | exact entry_Write.mono _ _ _ _ _ _ _ _ _ _ _ _ _ _
   | exact wapentakelaw04_awake.mono _
   | exact LeO.none _
   | refine LeO.ite ?_ ?_
   | refine LeO.bind ?_ (fun _ => ?_)
theorem wapentakelaw04_EntryBack.mono : ∀ a0 a1 a2 a3 a4 a5 a6 a7 a8 a9 a10 a11 a12 a13 a14 a15 k, LeO (wapentakelaw04_EntryBack.f k a0 a1 a2 a3 a4 a5 a6 a7 a8 a9 a10 a11 a12 a13 a14 a15) (wapentakelaw04_EntryBack.f (k + 1) a0 a1 a2 a3 a4 a5 a6 a7 a8 a9 a10 a11 a12 a13 a14 a15) := by
 intro a0 a1 a2 a3 a4 a5 a6 a7 a8 a9 a10 a11 a12 a13 a14 a15 k
 obtain ⟨ih0, ih1, ih2⟩ := wapentakelaw04_EntryBack.mono_l k
 unfold wapentakelaw04_EntryBack.f
 repeat' first
   | (with_reducible exact ih0 _ _ _ _ _ _ _ _ _ _ _ _ _ _ _ _ _)
   | (with_reducible exact ih1 _ _ _ _ _ _ _ _ _ _ _ _ _ _ _ _)
   | (with_reducible exact ih2 _)
   | (with_reducible exact entry_Read.mono _ _)
   | (with_reducible exact entry_Right.mono _ _ _ _ _ _ _ _ _ _ _ _ _ _)
   | (with_reducible exact entry_Write.mono _ _ _ _ _ _ _ _ _ _ _ _ _ _)
   | (with_reducible exact wapentakelaw04_awake.mono _)
   | (with_reducible exact LeO.refl _)
   | (with_reducible exact LeO.none _)
   | (with_reducible refine LeO.ite ?_ ?_)
   | (with_reducible refine LeO.bind ?_ (fun _ => ?_))
   | exact ih0 _ _ _ _ _ _ _ _ _ _ _ _ _ _ _ _ _
   | exact ih1 _ _ _ _ _ _ _ _ _ _ _ _ _ _ _ _
   | exact ih2 _
   | exact entry_Read.mono _ _
   | exact entry_Right.mono _ _ _ _ _ _ _ _ _ _ _ _ _ _
   | exact entry_Write.mono _ _ _ _ _ _ _ _ _ _ _ _ _ _
   | exact wapentakelaw04_awake.mono _
   | exact LeO.none _
   | refine LeO.ite ?_ ?_
   | refine LeO.bind ?_ (fun _ => ?_)
set_option maxHeartbeats 8000000 in
set_option maxRecDepth 100000 in
theorem wapentakelaw04_EntryBack.calls (k : Nat) (a0_0 : Int) (a0_1 : Int) (a0_2 : Int) (a0_3 : Int) (a0_4 : Int) (a0_5 : Int) (a0_6 : Int) (a0_7 : Int) (a0_8 : Int) (a0_9 : Int) (a0_10 : Int) (a0_11 : Int) (a0_12 : ByteArray) (a1 : ByteArray) (a2 : Int) (a3 : ByteArray) (r : Bool) (w : World) (h : wapentakelaw04_EntryBack.f k a0_0 a0_1 a0_2 a0_3 a0_4 a0_5 a0_6 a0_7 a0_8 a0_9 a0_10 a0_11 a0_12 a1 a2 a3 = some r) (hr_ : r = true) :
  Calls Try.prog 7 #[.agg #[.int .u64 a0_0, .int .u64 a0_1, .int .u8 a0_2, .int .u8 a0_3, .int .u8 a0_4, .int .u8 a0_5, .int .u8 a0_6, .int .u8 a0_7, .int .u8 a0_8, .int .u8 a0_9, .int .u8 a0_10, .int .u8 a0_11, .string a0_12], .string a1, .int .u16 a2, .string a3] w fun e w' => e = .returned (.bool r) ∧ Below w.heap.size w w' := by
 have hu27 := Try.underlying27
 have HB := Aside0.mk (Below.refl w.heap.size w)
 have H : (if (a0_12.size : Int) > 4000 then (wapentakelaw04_EntryBack.j0 k a1 a2 a3 true a0_0 a0_1 a0_2 a0_3 a0_4 a0_5 a0_6 a0_7 a0_8 a0_9 a0_10 a0_11 a0_12) else (wapentakelaw04_EntryBack.j0 k a1 a2 a3 (decide ((a3.size : Int) > 100)) a0_0 a0_1 a0_2 a0_3 a0_4 a0_5 a0_6 a0_7 a0_8 a0_9 a0_10 a0_11 a0_12)) = some r := h
 clear h
 have HC5 := Aside0.mk H
 clear H
 go_enter Try.func7, Try.ntmps7
 go_upto_region 1 with (first | ((with_reducible refine gate_dst (N := 4) rfl ?_); (try (refine gate_guard (by rfl) ?_; dsimp only)); refine box_event ?hg (N := 4) ?hd (cs := #[.int .u64 a0_0, .int .u64 a0_1, .int .u8 a0_2, .int .u8 a0_3, .int .u8 a0_4, .int .u8 a0_5, .int .u8 a0_6, .int .u8 a0_7, .int .u8 a0_8, .int .u8 a0_9, .int .u8 a0_10, .int .u8 a0_11, .string a0_12]) (t := 27) ?hr ?_; (case hd => rfl); (case hg => rfl); (case hr => first | (go_simp; done) | (go_simp; rfl)); intro gb387 hg w6 hbox hb; have n0_ := Aside0.mk (below_step (by repeat (first | (with_reducible first | exact HB.out | apply below_alloc | apply pw_below_drewN | apply below_drew1) | exact HB.out)) hb); have n1_ := Aside0.mk (hbox); have n2_ := Aside0.mk ((by rw [hg]; exact (below_size (by repeat (first | (with_reducible first | exact HB.out | apply below_alloc | apply pw_below_drewN | apply below_drew1) | exact HB.out))) : w.heap.size ≤ gb387)); have n3_ := Aside0.mk ((by rw [hg]; exact (below_size (by repeat (first | (with_reducible first | exact HB.out | apply below_alloc | apply pw_below_drewN | apply below_drew1) | exact HB.out))) : w.heap.size ≤ gb387)); clear HB; have HB := n0_; have BK387 := n1_; have GW387 := n2_; have GE387 := n3_; clear n0_ n1_ n2_ n3_; clear hb hbox hg))
 (try simp only [Act.put, zA22_, zB22_, zC22_])
 go_cut [26] (fun v26 wc => ∃ (kq : Nat) (x26_4 : Bool), v26 = .bool x26_4 ∧ Aside0 (wapentakelaw04_EntryBack.j0 kq a1 a2 a3 x26_4 a0_0 a0_1 a0_2 a0_3 a0_4 a0_5 a0_6 a0_7 a0_8 a0_9 a0_10 a0_11 a0_12 = some r) ∧ Aside0 (kq ≤ k) ∧ Aside0 (wc.heap[gb387]? = some (.cells #[.int .u64 a0_0, .int .u64 a0_1, .int .u8 a0_2, .int .u8 a0_3, .int .u8 a0_4, .int .u8 a0_5, .int .u8 a0_6, .int .u8 a0_7, .int .u8 a0_8, .int .u8 a0_9, .int .u8 a0_10, .int .u8 a0_11, .string a0_12] 27 (0, 0))) ∧ Aside0 (Below w.heap.size w wc))
 case first =>
  have H := HC5.out
  clear HC5
  by_cases c7 : (a0_12.size : Int) > 4000
  ·rw [if_pos c7] at H
   have c7b0 : decide (4000 < (a0_12.size : Int)) = true := decide_eq_true c7
   have c7b1 : decide (4000 < a0_12.size) = true := decide_eq_true (by omega)
   clear c7
   (first | rw [c7b0] | (simp only [i64_w, i32_w]; rw [c7b0]) | skip)
   have H' := Aside0.mk H
   clear H
   have hcz8_0 : w6.cell? ⟨gb387, 0, none⟩ = some (.int .u64 a0_0) := (blk_cell BK387.out 0).trans rfl
   have hcz8_1 : w6.cell? ⟨gb387, 1, none⟩ = some (.int .u64 a0_1) := (blk_cell BK387.out 1).trans rfl
   have hcz8_2 : w6.cell? ⟨gb387, 2, none⟩ = some (.int .u8 a0_2) := (blk_cell BK387.out 2).trans rfl
   have hcz8_3 : w6.cell? ⟨gb387, 3, none⟩ = some (.int .u8 a0_3) := (blk_cell BK387.out 3).trans rfl
   have hcz8_4 : w6.cell? ⟨gb387, 4, none⟩ = some (.int .u8 a0_4) := (blk_cell BK387.out 4).trans rfl
   have hcz8_5 : w6.cell? ⟨gb387, 5, none⟩ = some (.int .u8 a0_5) := (blk_cell BK387.out 5).trans rfl
   have hcz8_6 : w6.cell? ⟨gb387, 6, none⟩ = some (.int .u8 a0_6) := (blk_cell BK387.out 6).trans rfl
   have hcz8_7 : w6.cell? ⟨gb387, 7, none⟩ = some (.int .u8 a0_7) := (blk_cell BK387.out 7).trans rfl
   have hcz8_8 : w6.cell? ⟨gb387, 8, none⟩ = some (.int .u8 a0_8) := (blk_cell BK387.out 8).trans rfl
   have hcz8_9 : w6.cell? ⟨gb387, 9, none⟩ = some (.int .u8 a0_9) := (blk_cell BK387.out 9).trans rfl
   have hcz8_10 : w6.cell? ⟨gb387, 10, none⟩ = some (.int .u8 a0_10) := (blk_cell BK387.out 10).trans rfl
   have hcz8_11 : w6.cell? ⟨gb387, 11, none⟩ = some (.int .u8 a0_11) := (blk_cell BK387.out 11).trans rfl
   have hcz8_12 : w6.cell? ⟨gb387, 12, none⟩ = some (.string a0_12) := (blk_cell BK387.out 12).trans rfl
   have hfz8_0 := blk_frozen BK387.out 0
   have hfz8_1 := blk_frozen BK387.out 1
   have hfz8_2 := blk_frozen BK387.out 2
   have hfz8_3 := blk_frozen BK387.out 3
   have hfz8_4 := blk_frozen BK387.out 4
   have hfz8_5 := blk_frozen BK387.out 5
   have hfz8_6 := blk_frozen BK387.out 6
   have hfz8_7 := blk_frozen BK387.out 7
   have hfz8_8 := blk_frozen BK387.out 8
   have hfz8_9 := blk_frozen BK387.out 9
   have hfz8_10 := blk_frozen BK387.out 10
   have hfz8_11 := blk_frozen BK387.out 11
   have hfz8_12 := blk_frozen BK387.out 12
   go_wp2
   go_meet
   case rel => exact ⟨_, (true), (by first | (with_reducible rfl) | (simp; done) | (simp [*]; done) | (refine congrArg (Value.int _) ?_; unfold wrap64; omega) | rfl), H', ⟨by first | omega | exact Nat.le_refl _⟩, ⟨by (with_reducible repeat (first | refine blk_drewN ?_ _ | refine blk_drew ?_ | refine blk_alloc ?_ _)); exact BK387.out⟩, ⟨by repeat (first | (with_reducible first | exact HB.out | apply below_alloc | apply pw_below_drewN | apply below_drew1 | refine below_set ?_ GE387.out) | exact HB.out)⟩⟩
  ·rw [if_neg c7] at H
   have c7b0 : decide (4000 < (a0_12.size : Int)) = false := decide_eq_false c7
   have c7b1 : decide (4000 < a0_12.size) = false := decide_eq_false (by omega)
   clear c7
   (first | rw [c7b0] | (simp only [i64_w, i32_w]; rw [c7b0]) | skip)
   have H' := Aside0.mk H
   clear H
   have hcz9_0 : w6.cell? ⟨gb387, 0, none⟩ = some (.int .u64 a0_0) := (blk_cell BK387.out 0).trans rfl
   have hcz9_1 : w6.cell? ⟨gb387, 1, none⟩ = some (.int .u64 a0_1) := (blk_cell BK387.out 1).trans rfl
   have hcz9_2 : w6.cell? ⟨gb387, 2, none⟩ = some (.int .u8 a0_2) := (blk_cell BK387.out 2).trans rfl
   have hcz9_3 : w6.cell? ⟨gb387, 3, none⟩ = some (.int .u8 a0_3) := (blk_cell BK387.out 3).trans rfl
   have hcz9_4 : w6.cell? ⟨gb387, 4, none⟩ = some (.int .u8 a0_4) := (blk_cell BK387.out 4).trans rfl
   have hcz9_5 : w6.cell? ⟨gb387, 5, none⟩ = some (.int .u8 a0_5) := (blk_cell BK387.out 5).trans rfl
   have hcz9_6 : w6.cell? ⟨gb387, 6, none⟩ = some (.int .u8 a0_6) := (blk_cell BK387.out 6).trans rfl
   have hcz9_7 : w6.cell? ⟨gb387, 7, none⟩ = some (.int .u8 a0_7) := (blk_cell BK387.out 7).trans rfl
   have hcz9_8 : w6.cell? ⟨gb387, 8, none⟩ = some (.int .u8 a0_8) := (blk_cell BK387.out 8).trans rfl
   have hcz9_9 : w6.cell? ⟨gb387, 9, none⟩ = some (.int .u8 a0_9) := (blk_cell BK387.out 9).trans rfl
   have hcz9_10 : w6.cell? ⟨gb387, 10, none⟩ = some (.int .u8 a0_10) := (blk_cell BK387.out 10).trans rfl
   have hcz9_11 : w6.cell? ⟨gb387, 11, none⟩ = some (.int .u8 a0_11) := (blk_cell BK387.out 11).trans rfl
   have hcz9_12 : w6.cell? ⟨gb387, 12, none⟩ = some (.string a0_12) := (blk_cell BK387.out 12).trans rfl
   have hfz9_0 := blk_frozen BK387.out 0
   have hfz9_1 := blk_frozen BK387.out 1
   have hfz9_2 := blk_frozen BK387.out 2
   have hfz9_3 := blk_frozen BK387.out 3
   have hfz9_4 := blk_frozen BK387.out 4
   have hfz9_5 := blk_frozen BK387.out 5
   have hfz9_6 := blk_frozen BK387.out 6
   have hfz9_7 := blk_frozen BK387.out 7
   have hfz9_8 := blk_frozen BK387.out 8
   have hfz9_9 := blk_frozen BK387.out 9
   have hfz9_10 := blk_frozen BK387.out 10
   have hfz9_11 := blk_frozen BK387.out 11
   have hfz9_12 := blk_frozen BK387.out 12
   go_wp2
   go_meet
   case rel => exact ⟨_, (decide ((a3.size : Int) > 100)), (by first | (with_reducible rfl) | (simp; done) | (simp [*]; done) | (refine congrArg (Value.int _) ?_; unfold wrap64; omega) | rfl), H', ⟨by first | omega | exact Nat.le_refl _⟩, ⟨by (with_reducible repeat (first | refine blk_drewN ?_ _ | refine blk_drew ?_ | refine blk_alloc ?_ _)); exact BK387.out⟩, ⟨by repeat (first | (with_reducible first | exact HB.out | apply below_alloc | apply pw_below_drewN | apply below_drew1 | refine below_set ?_ GE387.out) | exact HB.out)⟩⟩
 case rest =>
  clear HC5
  try clear p2
  try clear p6
  try clear c7
  try clear c7b0
  try clear c7b1
  try clear hcz8_0
  try clear hcz8_1
  try clear hcz8_10
  try clear hcz8_11
  try clear hcz8_12
  try clear hcz8_2
  try clear hcz8_3
  try clear hcz8_4
  try clear hcz8_5
  try clear hcz8_6
  try clear hcz8_7
  try clear hcz8_8
  try clear hcz8_9
  try clear hcz9_0
  try clear hcz9_1
  try clear hcz9_10
  try clear hcz9_11
  try clear hcz9_12
  try clear hcz9_2
  try clear hcz9_3
  try clear hcz9_4
  try clear hcz9_5
  try clear hcz9_6
  try clear hcz9_7
  try clear hcz9_8
  try clear hcz9_9
  try clear hfz8_0
  try clear hfz8_1
  try clear hfz8_10
  try clear hfz8_11
  try clear hfz8_12
  try clear hfz8_2
  try clear hfz8_3
  try clear hfz8_4
  try clear hfz8_5
  try clear hfz8_6
  try clear hfz8_7
  try clear hfz8_8
  try clear hfz8_9
  try clear hfz9_0
  try clear hfz9_1
  try clear hfz9_10
  try clear hfz9_11
  try clear hfz9_12
  try clear hfz9_2
  try clear hfz9_3
  try clear hfz9_4
  try clear hfz9_5
  try clear hfz9_6
  try clear hfz9_7
  try clear hfz9_8
  try clear hfz9_9
  obtain ⟨kq, x26_4, rfl, HA, HJ4, BK387, HB⟩ := hcut
  cases kq with
  | zero => exact absurd HA.out (by simp [wapentakelaw04_EntryBack.j0])
  | succ kj4 =>
   have H := HA.out
   clear HA
   simp only [wapentakelaw04_EntryBack.j0] at H
   by_cases c10 : x26_4 = true
   ·subst c10
    have H1 : ((wapentakelaw04_awake.f kj4).bind fun t388 => (some t388)) = some r := by rw [if_pos rfl] at H; exact H
    clear H
    have H := H1
    clear H1
    replace H := Option.bind_eq_some_iff.mp H
    obtain ⟨t388, A110, H⟩ := H
    replace H : (some t388) = some r := H
    have A11 := Aside0.mk A110
    clear A110
    clear hr_
    obtain rfl := Option.some.inj H
    go_wp2_with (first | ((with_reducible refine gate_callee (f := 14) rfl ?_); refine goesL_ (some 27) rfl rfl Try.func14 (by kernel_rfl) rfl #[] rfl (by (try simp only [List.map_toArray, List.map_cons, List.map_nil]); first | done | rfl | (simp only [List.length_drop, List.length_take]; rfl)) ?_; (with_reducible refine (wapentakelaw04_awake.calls kj4  t388 _ A11.out).mono ?_); rintro e w12 ⟨rfl, hb⟩; refine ⟨_, rfl, ?_⟩; have n0_ := Aside0.mk (blk_below (g := gb387) (o := .cells #[.int .u64 a0_0, .int .u64 a0_1, .int .u8 a0_2, .int .u8 a0_3, .int .u8 a0_4, .int .u8 a0_5, .int .u8 a0_6, .int .u8 a0_7, .int .u8 a0_8, .int .u8 a0_9, .int .u8 a0_10, .int .u8 a0_11, .string a0_12] 27 (0, 0)) (by (with_reducible repeat (first | refine blk_drewN ?_ _ | refine blk_drew ?_ | refine blk_alloc ?_ _)); exact BK387.out) hb); have n1_ := Aside0.mk (below_step (by repeat (first | (with_reducible first | exact HB.out | apply below_alloc | apply pw_below_drewN | apply below_drew1 | refine below_set ?_ GE387.out) | exact HB.out)) hb); clear BK387; clear HB; have BK387 := n0_; have HB := n1_; clear n0_ n1_; (try clear hb); (try clear hb2); (try clear hk); (try clear hi)))
    go_ret
    exact ⟨by first | rfl | (simp [errW_none, errW_some] <;> rfl) | (simp [*, errW_none, errW_some] <;> rfl), by repeat (first | (with_reducible first | exact HB.out | apply below_alloc | apply pw_below_drewN | apply below_drew1 | refine below_set ?_ GE387.out) | exact HB.out)⟩
   ·replace c10 := Bool.eq_false_iff.mpr c10
    subst c10
    have H1 : (if (a1.size : Int) > 4000 then (if 0 ≤ 4000 then (if 4000 ≤ (a1.size : Int) then (wapentakelaw04_EntryBack.j1 kj4 (a1.extract 0 4000) a2 a3 a0_0 a0_1 a0_2 a0_3 a0_4 a0_5 a0_6 a0_7 a0_8 a0_9 a0_10 a0_11 a0_12) else (none)) else (none)) else (wapentakelaw04_EntryBack.j1 kj4 a1 a2 a3 a0_0 a0_1 a0_2 a0_3 a0_4 a0_5 a0_6 a0_7 a0_8 a0_9 a0_10 a0_11 a0_12)) = some r := by rw [if_neg (show ¬ (false = true) by decide)] at H; exact H
    clear H
    have H := H1
    clear H1
    have HC13 := Aside0.mk H
    clear H
    go_upto_if 30 with (fail)
    go_cut [1] (fun v1 wc => ∃ (kq : Nat) (x1_12 : ByteArray), v1 = .string x1_12 ∧ Aside0 (wapentakelaw04_EntryBack.j1 kq x1_12 a2 a3 a0_0 a0_1 a0_2 a0_3 a0_4 a0_5 a0_6 a0_7 a0_8 a0_9 a0_10 a0_11 a0_12 = some r) ∧ Aside0 (kq ≤ kj4) ∧ Aside0 (wc.heap[gb387]? = some (.cells #[.int .u64 a0_0, .int .u64 a0_1, .int .u8 a0_2, .int .u8 a0_3, .int .u8 a0_4, .int .u8 a0_5, .int .u8 a0_6, .int .u8 a0_7, .int .u8 a0_8, .int .u8 a0_9, .int .u8 a0_10, .int .u8 a0_11, .string a0_12] 27 (0, 0))) ∧ Aside0 (Below w.heap.size w wc))
    case first =>
     have H := HC13.out
     clear HC13
     by_cases c14 : (a1.size : Int) > 4000
     ·rw [if_pos c14] at H
      have c14b0 : decide (4000 < (a1.size : Int)) = true := decide_eq_true c14
      have c14b1 : decide (4000 < a1.size) = true := decide_eq_true (by omega)
      clear c14
      (first | rw [c14b0] | (simp only [i64_w, i32_w]; rw [c14b0]) | skip)
      by_cases c15 : 0 ≤ 4000
      ·rw [if_pos c15] at H
       have c15b0 := eq_true c15
       have c15b1 : decide (0 ≤ 4000) = true := decide_eq_true c15
       clear c15
       by_cases c16 : 4000 ≤ (a1.size : Int)
       ·rw [if_pos c16] at H
        have c16b0 := eq_true c16
        have c16b1 : decide (4000 ≤ (a1.size : Int)) = true := decide_eq_true c16
        clear c16
        have H' := Aside0.mk H
        clear H
        go_wp2
        go_meet
        case rel => exact ⟨_, (a1.extract 0 4000), (by first | (with_reducible rfl) | (simp; done) | (simp [*]; done) | (refine congrArg (Value.int _) ?_; unfold wrap64; omega) | rfl), H', ⟨by have := HJ4.out; first | omega | exact Nat.le_refl _⟩, ⟨by (with_reducible repeat (first | refine blk_drewN ?_ _ | refine blk_drew ?_ | refine blk_alloc ?_ _)); exact BK387.out⟩, ⟨by repeat (first | (with_reducible first | exact HB.out | apply below_alloc | apply pw_below_drewN | apply below_drew1 | refine below_set ?_ GE387.out) | exact HB.out)⟩⟩
       ·rw [if_neg c16] at H
        exact absurd H (by simp)
      ·rw [if_neg c15] at H
       exact absurd H (by simp)
     ·rw [if_neg c14] at H
      have c14b0 : decide (4000 < (a1.size : Int)) = false := decide_eq_false c14
      have c14b1 : decide (4000 < a1.size) = false := decide_eq_false (by omega)
      clear c14
      (first | rw [c14b0] | (simp only [i64_w, i32_w]; rw [c14b0]) | skip)
      have H' := Aside0.mk H
      clear H
      go_wp2
      go_meet
      case rel => exact ⟨_, (a1), (by first | (with_reducible rfl) | (simp; done) | (simp [*]; done) | (refine congrArg (Value.int _) ?_; unfold wrap64; omega) | rfl), H', ⟨by have := HJ4.out; first | omega | exact Nat.le_refl _⟩, ⟨by (with_reducible repeat (first | refine blk_drewN ?_ _ | refine blk_drew ?_ | refine blk_alloc ?_ _)); exact BK387.out⟩, ⟨by repeat (first | (with_reducible first | exact HB.out | apply below_alloc | apply pw_below_drewN | apply below_drew1 | refine below_set ?_ GE387.out) | exact HB.out)⟩⟩
    case rest =>
     clear HC13
     try clear c1
     try clear p2
     try clear p6
     try clear c7
     try clear c7b0
     try clear c7b1
     try clear c10
     try clear c14
     try clear c14b0
     try clear c14b1
     try clear c15
     try clear c15b0
     try clear c15b1
     try clear c16
     try clear c16b0
     try clear c16b1
     try clear hcz8_0
     try clear hcz8_1
     try clear hcz8_10
     try clear hcz8_11
     try clear hcz8_12
     try clear hcz8_2
     try clear hcz8_3
     try clear hcz8_4
     try clear hcz8_5
     try clear hcz8_6
     try clear hcz8_7
     try clear hcz8_8
     try clear hcz8_9
     try clear hcz9_0
     try clear hcz9_1
     try clear hcz9_10
     try clear hcz9_11
     try clear hcz9_12
     try clear hcz9_2
     try clear hcz9_3
     try clear hcz9_4
     try clear hcz9_5
     try clear hcz9_6
     try clear hcz9_7
     try clear hcz9_8
     try clear hcz9_9
     try clear hfz8_0
     try clear hfz8_1
     try clear hfz8_10
     try clear hfz8_11
     try clear hfz8_12
     try clear hfz8_2
     try clear hfz8_3
     try clear hfz8_4
     try clear hfz8_5
     try clear hfz8_6
     try clear hfz8_7
     try clear hfz8_8
     try clear hfz8_9
     try clear hfz9_0
     try clear hfz9_1
     try clear hfz9_10
     try clear hfz9_11
     try clear hfz9_12
     try clear hfz9_2
     try clear hfz9_3
     try clear hfz9_4
     try clear hfz9_5
     try clear hfz9_6
     try clear hfz9_7
     try clear hfz9_8
     try clear hfz9_9
     try clear p2
     try clear p6
     obtain ⟨kq, x1_12, rfl, HA, HJ12, BK387, HB⟩ := hcut
     cases kq with
     | zero => exact absurd HA.out (by simp [wapentakelaw04_EntryBack.j1])
     | succ kj12 =>
      have H := HA.out
      clear HA
      simp only [wapentakelaw04_EntryBack.j1] at H
      replace H := Option.bind_eq_some_iff.mp H
      obtain ⟨t389, A170, H⟩ := H
      replace H : ((entry_Right.f kj12 a0_0 a0_1 a0_2 a0_3 a0_4 a0_5 a0_6 a0_7 a0_8 a0_9 a0_10 a0_11 a0_12).bind fun t390 => (if ((!t389.toList.isEmpty) != t390) = true then (some false) else (if t389.toList = ([] : List UInt8) then (wapentakelaw04_EntryBack.j2 kj12 x1_12) else ((entry_Read.f kj12 t389).bind fun bt391 => (if (t389.size : Int) = 0 then (none) else (if 0 ≤ (Int.tmod (wrap64 (a2)) (t389.size : Int)) then (if (Int.tmod (wrap64 (a2)) (t389.size : Int)) ≤ (t389.size : Int) then ((entry_Read.f kj12 (t389.extract 0 ((Int.tmod (wrap64 (a2)) (t389.size : Int)) : Int).toNat)).bind fun bt406 => (if t389.size + a3.size ≤ 9223372036854775807 then ((entry_Read.f kj12 (t389 ++ a3)).bind fun bt421 => (if bt391.2.2.2.2.2.2.2.2.2.2.2.2.2 = true then (if (!(bt391.1 == a0_0) || (!(bt391.2.1 == a0_1) || (!(bt391.2.2.1 == a0_2) || (!(bt391.2.2.2.1 == a0_3) || ((!(bt391.2.2.2.2.1 == a0_4) || (!(bt391.2.2.2.2.2.1 == a0_5) || (!(bt391.2.2.2.2.2.2.1 == a0_6) || (!(bt391.2.2.2.2.2.2.2.1 == a0_7) || (!(bt391.2.2.2.2.2.2.2.2.1 == a0_8) || (!(bt391.2.2.2.2.2.2.2.2.2.1 == a0_9) || (!(bt391.2.2.2.2.2.2.2.2.2.2.1 == a0_10) || (!(bt391.2.2.2.2.2.2.2.2.2.2.2.1 == a0_11))))))))) || (!(bt391.2.2.2.2.2.2.2.2.2.2.2.2.1.toList == a0_12.toList))))))) = true then (some false) else (if bt406.2.2.2.2.2.2.2.2.2.2.2.2.2 = true then (some false) else (if (bt421.2.2.2.2.2.2.2.2.2.2.2.2.2 != a3.toList.isEmpty) = true then (some false) else (wapentakelaw04_EntryBack.j2 kj12 x1_12)))) else (some false))) else (none))) else (none)) else (none))))))) = some r := H
      have A17 := Aside0.mk A170
      clear A170
      replace H := Option.bind_eq_some_iff.mp H
      obtain ⟨t390, A180, H⟩ := H
      replace H : (if ((!t389.toList.isEmpty) != t390) = true then (some false) else (if t389.toList = ([] : List UInt8) then (wapentakelaw04_EntryBack.j2 kj12 x1_12) else ((entry_Read.f kj12 t389).bind fun bt391 => (if (t389.size : Int) = 0 then (none) else (if 0 ≤ (Int.tmod (wrap64 (a2)) (t389.size : Int)) then (if (Int.tmod (wrap64 (a2)) (t389.size : Int)) ≤ (t389.size : Int) then ((entry_Read.f kj12 (t389.extract 0 ((Int.tmod (wrap64 (a2)) (t389.size : Int)) : Int).toNat)).bind fun bt406 => (if t389.size + a3.size ≤ 9223372036854775807 then ((entry_Read.f kj12 (t389 ++ a3)).bind fun bt421 => (if bt391.2.2.2.2.2.2.2.2.2.2.2.2.2 = true then (if (!(bt391.1 == a0_0) || (!(bt391.2.1 == a0_1) || (!(bt391.2.2.1 == a0_2) || (!(bt391.2.2.2.1 == a0_3) || ((!(bt391.2.2.2.2.1 == a0_4) || (!(bt391.2.2.2.2.2.1 == a0_5) || (!(bt391.2.2.2.2.2.2.1 == a0_6) || (!(bt391.2.2.2.2.2.2.2.1 == a0_7) || (!(bt391.2.2.2.2.2.2.2.2.1 == a0_8) || (!(bt391.2.2.2.2.2.2.2.2.2.1 == a0_9) || (!(bt391.2.2.2.2.2.2.2.2.2.2.1 == a0_10) || (!(bt391.2.2.2.2.2.2.2.2.2.2.2.1 == a0_11))))))))) || (!(bt391.2.2.2.2.2.2.2.2.2.2.2.2.1.toList == a0_12.toList))))))) = true then (some false) else (if bt406.2.2.2.2.2.2.2.2.2.2.2.2.2 = true then (some false) else (if (bt421.2.2.2.2.2.2.2.2.2.2.2.2.2 != a3.toList.isEmpty) = true then (some false) else (wapentakelaw04_EntryBack.j2 kj12 x1_12)))) else (some false))) else (none))) else (none)) else (none)))))) = some r := H
      have A18 := Aside0.mk A180
      clear A180
      by_cases c19 : ((!t389.toList.isEmpty) != t390) = true
      ·rw [if_pos c19] at H
       have c19b0 : ((!t389.toList.isEmpty) != t390) = true := c19
       (try (have c19b1 : decide ((!t389.toList.isEmpty) = t390) = false := by simpa using c19))
       (try (have c19b2 : ((!t389.toList.isEmpty) == t390) = false := by simpa using c19))
       (try (have c19b3 : ¬ ((!t389.toList.isEmpty) = t390) := by simpa using c19))
       (try (have c19b4 : (!((!t389.toList.isEmpty) == t390)) = true := by have h_ : ((!t389.toList.isEmpty) != t390) = true := c19; exact h_))
       clear c19
       exact absurd (Option.some.inj H) (by rw [hr_]; decide)
      ·rw [if_neg c19] at H
       have c19b0 : ((!t389.toList.isEmpty) != t390) = false := by simpa using c19
       (try (have c19b1 : decide ((!t389.toList.isEmpty) = t390) = true := by simpa using c19))
       (try (have c19b2 : ((!t389.toList.isEmpty) == t390) = true := by simpa using c19))
       (try (have c19b3 : (!((!t389.toList.isEmpty) == t390)) = false := by have h_ : ((!t389.toList.isEmpty) != t390) = false := (by simpa using c19); exact h_))
       clear c19
       have HC20 := Aside0.mk H
       clear H
       have hcz21_0 : wc.cell? ⟨gb387, 0, none⟩ = some (.int .u64 a0_0) := (blk_cell BK387.out 0).trans rfl
       have hcz21_1 : wc.cell? ⟨gb387, 1, none⟩ = some (.int .u64 a0_1) := (blk_cell BK387.out 1).trans rfl
       have hcz21_2 : wc.cell? ⟨gb387, 2, none⟩ = some (.int .u8 a0_2) := (blk_cell BK387.out 2).trans rfl
       have hcz21_3 : wc.cell? ⟨gb387, 3, none⟩ = some (.int .u8 a0_3) := (blk_cell BK387.out 3).trans rfl
       have hcz21_4 : wc.cell? ⟨gb387, 4, none⟩ = some (.int .u8 a0_4) := (blk_cell BK387.out 4).trans rfl
       have hcz21_5 : wc.cell? ⟨gb387, 5, none⟩ = some (.int .u8 a0_5) := (blk_cell BK387.out 5).trans rfl
       have hcz21_6 : wc.cell? ⟨gb387, 6, none⟩ = some (.int .u8 a0_6) := (blk_cell BK387.out 6).trans rfl
       have hcz21_7 : wc.cell? ⟨gb387, 7, none⟩ = some (.int .u8 a0_7) := (blk_cell BK387.out 7).trans rfl
       have hcz21_8 : wc.cell? ⟨gb387, 8, none⟩ = some (.int .u8 a0_8) := (blk_cell BK387.out 8).trans rfl
       have hcz21_9 : wc.cell? ⟨gb387, 9, none⟩ = some (.int .u8 a0_9) := (blk_cell BK387.out 9).trans rfl
       have hcz21_10 : wc.cell? ⟨gb387, 10, none⟩ = some (.int .u8 a0_10) := (blk_cell BK387.out 10).trans rfl
       have hcz21_11 : wc.cell? ⟨gb387, 11, none⟩ = some (.int .u8 a0_11) := (blk_cell BK387.out 11).trans rfl
       have hcz21_12 : wc.cell? ⟨gb387, 12, none⟩ = some (.string a0_12) := (blk_cell BK387.out 12).trans rfl
       have hfz21_0 := blk_frozen BK387.out 0
       have hfz21_1 := blk_frozen BK387.out 1
       have hfz21_2 := blk_frozen BK387.out 2
       have hfz21_3 := blk_frozen BK387.out 3
       have hfz21_4 := blk_frozen BK387.out 4
       have hfz21_5 := blk_frozen BK387.out 5
       have hfz21_6 := blk_frozen BK387.out 6
       have hfz21_7 := blk_frozen BK387.out 7
       have hfz21_8 := blk_frozen BK387.out 8
       have hfz21_9 := blk_frozen BK387.out 9
       have hfz21_10 := blk_frozen BK387.out 10
       have hfz21_11 := blk_frozen BK387.out 11
       have hfz21_12 := blk_frozen BK387.out 12
       go_upto_if 41 with (first | ((with_reducible refine gate_callee (f := 9) rfl ?_); refine goesL_ (some 34) rfl rfl Try.func9 (by kernel_rfl) rfl #[.agg #[.int .u64 a0_0, .int .u64 a0_1, .int .u8 a0_2, .int .u8 a0_3, .int .u8 a0_4, .int .u8 a0_5, .int .u8 a0_6, .int .u8 a0_7, .int .u8 a0_8, .int .u8 a0_9, .int .u8 a0_10, .int .u8 a0_11, .string a0_12]] rfl (by (try simp only [List.map_toArray, List.map_cons, List.map_nil]); first | done | rfl | (simp only [List.length_drop, List.length_take]; rfl)) ?_; (with_reducible refine (entry_Write.calls kj12 a0_0 a0_1 a0_2 a0_3 a0_4 a0_5 a0_6 a0_7 a0_8 a0_9 a0_10 a0_11 a0_12 t389 _ A17.out).mono ?_); rintro e w22 ⟨rfl, hb⟩; refine ⟨_, rfl, ?_⟩; have n0_ := Aside0.mk (blk_below (g := gb387) (o := .cells #[.int .u64 a0_0, .int .u64 a0_1, .int .u8 a0_2, .int .u8 a0_3, .int .u8 a0_4, .int .u8 a0_5, .int .u8 a0_6, .int .u8 a0_7, .int .u8 a0_8, .int .u8 a0_9, .int .u8 a0_10, .int .u8 a0_11, .string a0_12] 27 (0, 0)) (by (with_reducible repeat (first | refine blk_drewN ?_ _ | refine blk_drew ?_ | refine blk_alloc ?_ _)); exact BK387.out) hb); have n1_ := Aside0.mk (below_step (by repeat (first | (with_reducible first | exact HB.out | apply below_alloc | apply pw_below_drewN | apply below_drew1 | refine below_set ?_ GE387.out) | exact HB.out)) hb); clear BK387; clear HB; have BK387 := n0_; have HB := n1_; clear n0_ n1_; (try clear hb); (try clear hb2); (try clear hk); (try clear hi); have hcz23_0 : w22.cell? ⟨gb387, 0, none⟩ = some (.int .u64 a0_0) := (blk_cell BK387.out 0).trans rfl; have hcz23_1 : w22.cell? ⟨gb387, 1, none⟩ = some (.int .u64 a0_1) := (blk_cell BK387.out 1).trans rfl; have hcz23_2 : w22.cell? ⟨gb387, 2, none⟩ = some (.int .u8 a0_2) := (blk_cell BK387.out 2).trans rfl; have hcz23_3 : w22.cell? ⟨gb387, 3, none⟩ = some (.int .u8 a0_3) := (blk_cell BK387.out 3).trans rfl; have hcz23_4 : w22.cell? ⟨gb387, 4, none⟩ = some (.int .u8 a0_4) := (blk_cell BK387.out 4).trans rfl; have hcz23_5 : w22.cell? ⟨gb387, 5, none⟩ = some (.int .u8 a0_5) := (blk_cell BK387.out 5).trans rfl; have hcz23_6 : w22.cell? ⟨gb387, 6, none⟩ = some (.int .u8 a0_6) := (blk_cell BK387.out 6).trans rfl; have hcz23_7 : w22.cell? ⟨gb387, 7, none⟩ = some (.int .u8 a0_7) := (blk_cell BK387.out 7).trans rfl; have hcz23_8 : w22.cell? ⟨gb387, 8, none⟩ = some (.int .u8 a0_8) := (blk_cell BK387.out 8).trans rfl; have hcz23_9 : w22.cell? ⟨gb387, 9, none⟩ = some (.int .u8 a0_9) := (blk_cell BK387.out 9).trans rfl; have hcz23_10 : w22.cell? ⟨gb387, 10, none⟩ = some (.int .u8 a0_10) := (blk_cell BK387.out 10).trans rfl; have hcz23_11 : w22.cell? ⟨gb387, 11, none⟩ = some (.int .u8 a0_11) := (blk_cell BK387.out 11).trans rfl; have hcz23_12 : w22.cell? ⟨gb387, 12, none⟩ = some (.string a0_12) := (blk_cell BK387.out 12).trans rfl; have hfz23_0 := blk_frozen BK387.out 0; have hfz23_1 := blk_frozen BK387.out 1; have hfz23_2 := blk_frozen BK387.out 2; have hfz23_3 := blk_frozen BK387.out 3; have hfz23_4 := blk_frozen BK387.out 4; have hfz23_5 := blk_frozen BK387.out 5; have hfz23_6 := blk_frozen BK387.out 6; have hfz23_7 := blk_frozen BK387.out 7; have hfz23_8 := blk_frozen BK387.out 8; have hfz23_9 := blk_frozen BK387.out 9; have hfz23_10 := blk_frozen BK387.out 10; have hfz23_11 := blk_frozen BK387.out 11; have hfz23_12 := blk_frozen BK387.out 12) | ((with_reducible refine gate_callee (f := 10) rfl ?_); refine goesL_ (some 38) rfl rfl Try.func10 (by kernel_rfl) rfl #[.agg #[.int .u64 a0_0, .int .u64 a0_1, .int .u8 a0_2, .int .u8 a0_3, .int .u8 a0_4, .int .u8 a0_5, .int .u8 a0_6, .int .u8 a0_7, .int .u8 a0_8, .int .u8 a0_9, .int .u8 a0_10, .int .u8 a0_11, .string a0_12]] rfl (by (try simp only [List.map_toArray, List.map_cons, List.map_nil]); first | done | rfl | (simp only [List.length_drop, List.length_take]; rfl)) ?_; (with_reducible refine (entry_Right.calls kj12 a0_0 a0_1 a0_2 a0_3 a0_4 a0_5 a0_6 a0_7 a0_8 a0_9 a0_10 a0_11 a0_12 t390 _ A18.out).mono ?_); rintro e w24 ⟨rfl, hb⟩; refine ⟨_, rfl, ?_⟩; have n0_ := Aside0.mk (blk_below (g := gb387) (o := .cells #[.int .u64 a0_0, .int .u64 a0_1, .int .u8 a0_2, .int .u8 a0_3, .int .u8 a0_4, .int .u8 a0_5, .int .u8 a0_6, .int .u8 a0_7, .int .u8 a0_8, .int .u8 a0_9, .int .u8 a0_10, .int .u8 a0_11, .string a0_12] 27 (0, 0)) (by (with_reducible repeat (first | refine blk_drewN ?_ _ | refine blk_drew ?_ | refine blk_alloc ?_ _)); exact BK387.out) hb); have n1_ := Aside0.mk (below_step (by repeat (first | (with_reducible first | exact HB.out | apply below_alloc | apply pw_below_drewN | apply below_drew1 | refine below_set ?_ GE387.out) | exact HB.out)) hb); clear BK387; clear HB; have BK387 := n0_; have HB := n1_; clear n0_ n1_; (try clear hb); (try clear hb2); (try clear hk); (try clear hi)))
       (try simp only [Act.put, zA22_, zB22_, zC22_])
       go_cut [] (fun wc => ∃ (kq : Nat), Aside0 (wapentakelaw04_EntryBack.j2 kq x1_12 = some r) ∧ Aside0 (kq ≤ kj12) ∧ Aside0 (wc.heap[gb387]? = some (.cells #[.int .u64 a0_0, .int .u64 a0_1, .int .u8 a0_2, .int .u8 a0_3, .int .u8 a0_4, .int .u8 a0_5, .int .u8 a0_6, .int .u8 a0_7, .int .u8 a0_8, .int .u8 a0_9, .int .u8 a0_10, .int .u8 a0_11, .string a0_12] 27 (0, 0))) ∧ Aside0 (Below w.heap.size w wc))
       case first =>
        have H := HC20.out
        clear HC20
        by_cases c25 : t389.toList = ([] : List UInt8)
        ·rw [if_pos c25] at H
         have c25b0 : t389.toList.isEmpty = true := (by rw [c25]; rfl)
         have c25b1 : (t389.toList == ([] : List UInt8)) = true := beq_iff_eq.mpr c25
         have c25b2 : (t389.toList != ([] : List UInt8)) = false := bne_eq_false_iff_eq.mpr c25
         clear c25
         (first | rw [c25b0] | (simp only [i64_w, i32_w]; rw [c25b0]) | skip)
         have H' := Aside0.mk H
         clear H
         go_wp2
         go_meet
         case rel => exact ⟨_, H', ⟨by have := HJ4.out; have := HJ12.out; first | omega | exact Nat.le_refl _⟩, ⟨by (with_reducible repeat (first | refine blk_drewN ?_ _ | refine blk_drew ?_ | refine blk_alloc ?_ _)); exact BK387.out⟩, ⟨by repeat (first | (with_reducible first | exact HB.out | apply below_alloc | apply pw_below_drewN | apply below_drew1 | refine below_set ?_ GE387.out) | exact HB.out)⟩⟩
        ·rw [if_neg c25] at H
         have c25b0 : t389.toList.isEmpty = false := (by rw [← Bool.not_eq_true, List.isEmpty_iff]; exact c25)
         have c25b1 : (t389.toList == ([] : List UInt8)) = false := beq_eq_false_iff_ne.mpr c25
         have c25b2 : (t389.toList != ([] : List UInt8)) = true := bne_iff_ne.mpr c25
         (first | rw [c25b0] | (simp only [i64_w, i32_w]; rw [c25b0]) | skip)
         replace H := Option.bind_eq_some_iff.mp H
         obtain ⟨⟨t391, t392, t393, t394, t395, t396, t397, t398, t399, t400, t401, t402, t403, t404⟩, A260, H⟩ := H
         replace H : (if (t389.size : Int) = 0 then (none) else (if 0 ≤ (Int.tmod (wrap64 (a2)) (t389.size : Int)) then (if (Int.tmod (wrap64 (a2)) (t389.size : Int)) ≤ (t389.size : Int) then ((entry_Read.f kj12 (t389.extract 0 ((Int.tmod (wrap64 (a2)) (t389.size : Int)) : Int).toNat)).bind fun bt406 => (if t389.size + a3.size ≤ 9223372036854775807 then ((entry_Read.f kj12 (t389 ++ a3)).bind fun bt421 => (if t404 = true then (if (!(t391 == a0_0) || (!(t392 == a0_1) || (!(t393 == a0_2) || (!(t394 == a0_3) || ((!(t395 == a0_4) || (!(t396 == a0_5) || (!(t397 == a0_6) || (!(t398 == a0_7) || (!(t399 == a0_8) || (!(t400 == a0_9) || (!(t401 == a0_10) || (!(t402 == a0_11))))))))) || (!(t403.toList == a0_12.toList))))))) = true then (some false) else (if bt406.2.2.2.2.2.2.2.2.2.2.2.2.2 = true then (some false) else (if (bt421.2.2.2.2.2.2.2.2.2.2.2.2.2 != a3.toList.isEmpty) = true then (some false) else (wapentakelaw04_EntryBack.j2 kj12 x1_12)))) else (some false))) else (none))) else (none)) else (none))) = some r := H
         have A26 := Aside0.mk A260
         clear A260
         by_cases c27 : (t389.size : Int) = 0
         ·rw [if_pos c27] at H
          exact absurd H (by simp)
         ·rw [if_neg c27] at H
          have c27b0 : ((t389.size : Int) == 0) = false := beq_eq_false_iff_ne.mpr c27
          have c27b1 : ((t389.size : Int) != 0) = true := bne_iff_ne.mpr c27
          obtain ⟨ji28, hji28⟩ : ∃ j_ : Int, (Int.tmod (wrap64 (a2)) (t389.size : Int)) = j_ := ⟨_, rfl⟩
          replace H : (if 0 ≤ (ji28) then (if (ji28) ≤ (t389.size : Int) then ((entry_Read.f kj12 (t389.extract 0 ((ji28) : Int).toNat)).bind fun bt406 => (if t389.size + a3.size ≤ 9223372036854775807 then ((entry_Read.f kj12 (t389 ++ a3)).bind fun bt421 => (if t404 = true then (if (!(t391 == a0_0) || (!(t392 == a0_1) || (!(t393 == a0_2) || (!(t394 == a0_3) || ((!(t395 == a0_4) || (!(t396 == a0_5) || (!(t397 == a0_6) || (!(t398 == a0_7) || (!(t399 == a0_8) || (!(t400 == a0_9) || (!(t401 == a0_10) || (!(t402 == a0_11))))))))) || (!(t403.toList == a0_12.toList))))))) = true then (some false) else (if bt406.2.2.2.2.2.2.2.2.2.2.2.2.2 = true then (some false) else (if (bt421.2.2.2.2.2.2.2.2.2.2.2.2.2 != a3.toList.isEmpty) = true then (some false) else (wapentakelaw04_EntryBack.j2 kj12 x1_12)))) else (some false))) else (none))) else (none)) else (none)) = some r := by first | (rw [hji28] at H; exact H) | (simp only [hji28] at H ⊢; exact H)
          (try rw [hji28] at A26)
          by_cases c29 : 0 ≤ (ji28)
          ·rw [if_pos c29] at H
           have c29b0 := eq_true c29
           have c29b1 : decide (0 ≤ (ji28)) = true := decide_eq_true c29
           clear c29
           by_cases c30 : (ji28) ≤ (t389.size : Int)
           ·rw [if_pos c30] at H
            have c30b0 := eq_true c30
            have c30b1 : decide ((ji28) ≤ (t389.size : Int)) = true := decide_eq_true c30
            clear c30
            replace H := Option.bind_eq_some_iff.mp H
            obtain ⟨⟨t406, t407, t408, t409, t410, t411, t412, t413, t414, t415, t416, t417, t418, t419⟩, A310, H⟩ := H
            replace H : (if t389.size + a3.size ≤ 9223372036854775807 then ((entry_Read.f kj12 (t389 ++ a3)).bind fun bt421 => (if t404 = true then (if (!(t391 == a0_0) || (!(t392 == a0_1) || (!(t393 == a0_2) || (!(t394 == a0_3) || ((!(t395 == a0_4) || (!(t396 == a0_5) || (!(t397 == a0_6) || (!(t398 == a0_7) || (!(t399 == a0_8) || (!(t400 == a0_9) || (!(t401 == a0_10) || (!(t402 == a0_11))))))))) || (!(t403.toList == a0_12.toList))))))) = true then (some false) else (if t419 = true then (some false) else (if (bt421.2.2.2.2.2.2.2.2.2.2.2.2.2 != a3.toList.isEmpty) = true then (some false) else (wapentakelaw04_EntryBack.j2 kj12 x1_12)))) else (some false))) else (none)) = some r := H
            have A31 := Aside0.mk A310
            clear A310
            by_cases c32 : t389.size + a3.size ≤ 9223372036854775807
            ·rw [if_pos c32] at H
             have c32b0 := eq_true c32
             have c32b1 : decide (t389.size + a3.size ≤ 9223372036854775807) = true := decide_eq_true c32
             try have c32b2 : (9223372036854775807 < t389.size + a3.size) = False := eq_false (Nat.not_lt.2 c32)
             replace H := Option.bind_eq_some_iff.mp H
             obtain ⟨⟨t421, t422, t423, t424, t425, t426, t427, t428, t429, t430, t431, t432, t433, t434⟩, A330, H⟩ := H
             replace H : (if t404 = true then (if (!(t391 == a0_0) || (!(t392 == a0_1) || (!(t393 == a0_2) || (!(t394 == a0_3) || ((!(t395 == a0_4) || (!(t396 == a0_5) || (!(t397 == a0_6) || (!(t398 == a0_7) || (!(t399 == a0_8) || (!(t400 == a0_9) || (!(t401 == a0_10) || (!(t402 == a0_11))))))))) || (!(t403.toList == a0_12.toList))))))) = true then (some false) else (if t419 = true then (some false) else (if (t434 != a3.toList.isEmpty) = true then (some false) else (wapentakelaw04_EntryBack.j2 kj12 x1_12)))) else (some false)) = some r := H
             have A33 := Aside0.mk A330
             clear A330
             by_cases c34 : t404 = true
             ·subst c34
              have H1 : (if (!(t391 == a0_0) || (!(t392 == a0_1) || (!(t393 == a0_2) || (!(t394 == a0_3) || ((!(t395 == a0_4) || (!(t396 == a0_5) || (!(t397 == a0_6) || (!(t398 == a0_7) || (!(t399 == a0_8) || (!(t400 == a0_9) || (!(t401 == a0_10) || (!(t402 == a0_11))))))))) || (!(t403.toList == a0_12.toList))))))) = true then (some false) else (if t419 = true then (some false) else (if (t434 != a3.toList.isEmpty) = true then (some false) else (wapentakelaw04_EntryBack.j2 kj12 x1_12)))) = some r := by rw [if_pos rfl] at H; exact H
              clear H
              have H := H1
              clear H1
              by_cases c35 : (!(t391 == a0_0) || (!(t392 == a0_1) || (!(t393 == a0_2) || (!(t394 == a0_3) || ((!(t395 == a0_4) || (!(t396 == a0_5) || (!(t397 == a0_6) || (!(t398 == a0_7) || (!(t399 == a0_8) || (!(t400 == a0_9) || (!(t401 == a0_10) || (!(t402 == a0_11))))))))) || (!(t403.toList == a0_12.toList))))))) = true
              ·rw [if_pos c35] at H
               have c35b0 : (!(t391 == a0_0) || (!(t392 == a0_1) || (!(t393 == a0_2) || (!(t394 == a0_3) || ((!(t395 == a0_4) || (!(t396 == a0_5) || (!(t397 == a0_6) || (!(t398 == a0_7) || (!(t399 == a0_8) || (!(t400 == a0_9) || (!(t401 == a0_10) || (!(t402 == a0_11))))))))) || (!(t403.toList == a0_12.toList))))))) = true := c35
               clear c35
               exact absurd (Option.some.inj H) (by rw [hr_]; decide)
              ·rw [if_neg c35] at H
               have c35b0 : (!(t391 == a0_0) || (!(t392 == a0_1) || (!(t393 == a0_2) || (!(t394 == a0_3) || ((!(t395 == a0_4) || (!(t396 == a0_5) || (!(t397 == a0_6) || (!(t398 == a0_7) || (!(t399 == a0_8) || (!(t400 == a0_9) || (!(t401 == a0_10) || (!(t402 == a0_11))))))))) || (!(t403.toList == a0_12.toList))))))) = false := by simpa using c35
               clear c35
               by_cases c36 : t419 = true
               ·subst c36
                have H1 : (some false) = some r := by rw [if_pos rfl] at H; exact H
                clear H
                have H := H1
                clear H1
                exact absurd (Option.some.inj H) (by rw [hr_]; decide)
               ·replace c36 := Bool.eq_false_iff.mpr c36
                subst c36
                have H1 : (if (t434 != a3.toList.isEmpty) = true then (some false) else (wapentakelaw04_EntryBack.j2 kj12 x1_12)) = some r := by rw [if_neg (show ¬ (false = true) by decide)] at H; exact H
                clear H
                have H := H1
                clear H1
                by_cases c37 : (t434 != a3.toList.isEmpty) = true
                ·rw [if_pos c37] at H
                 have c37b0 : (t434 != a3.toList.isEmpty) = true := c37
                 (try (have c37b1 : decide (t434 = a3.toList.isEmpty) = false := by simpa using c37))
                 (try (have c37b2 : (t434 == a3.toList.isEmpty) = false := by simpa using c37))
                 (try (have c37b3 : ¬ (t434 = a3.toList.isEmpty) := by simpa using c37))
                 (try (have c37b4 : (!(t434 == a3.toList.isEmpty)) = true := by have h_ : (t434 != a3.toList.isEmpty) = true := c37; exact h_))
                 clear c37
                 exact absurd (Option.some.inj H) (by rw [hr_]; decide)
                ·rw [if_neg c37] at H
                 have c37b0 : (t434 != a3.toList.isEmpty) = false := by simpa using c37
                 (try (have c37b1 : decide (t434 = a3.toList.isEmpty) = true := by simpa using c37))
                 (try (have c37b2 : (t434 == a3.toList.isEmpty) = true := by simpa using c37))
                 (try (have c37b3 : (!(t434 == a3.toList.isEmpty)) = false := by have h_ : (t434 != a3.toList.isEmpty) = false := (by simpa using c37); exact h_))
                 clear c37
                 have H' := Aside0.mk H
                 clear H
                 go_wp2_with (first | ((with_reducible refine gate_callee (f := 11) rfl ?_); refine goesL_ (some 44) rfl rfl Try.func11 (by kernel_rfl) rfl #[.string t389] rfl (by (try simp only [List.map_toArray, List.map_cons, List.map_nil]); first | done | rfl | (simp only [List.length_drop, List.length_take]; rfl)) ?_; (with_reducible refine (entry_Read.calls kj12 t389 t391 t392 t393 t394 t395 t396 t397 t398 t399 t400 t401 t402 t403 true _ A26.out).mono ?_); rintro e w38 ⟨rfl, hb⟩; refine ⟨_, rfl, ?_⟩; have n0_ := Aside0.mk (blk_below (g := gb387) (o := .cells #[.int .u64 a0_0, .int .u64 a0_1, .int .u8 a0_2, .int .u8 a0_3, .int .u8 a0_4, .int .u8 a0_5, .int .u8 a0_6, .int .u8 a0_7, .int .u8 a0_8, .int .u8 a0_9, .int .u8 a0_10, .int .u8 a0_11, .string a0_12] 27 (0, 0)) (by (with_reducible repeat (first | refine blk_drewN ?_ _ | refine blk_drew ?_ | refine blk_alloc ?_ _)); exact BK387.out) hb); have n1_ := Aside0.mk (below_step (by repeat (first | (with_reducible first | exact HB.out | apply below_alloc | apply pw_below_drewN | apply below_drew1 | refine below_set ?_ GE387.out) | exact HB.out)) hb); clear BK387; clear HB; have BK387 := n0_; have HB := n1_; clear n0_ n1_; (try clear hb); (try clear hb2); (try clear hk); (try clear hi)) | ((with_reducible refine gate_dst (N := 10) rfl ?_); (try (refine gate_guard (by rfl) ?_; dsimp only)); refine box_event ?hg (N := 10) ?hd (cs := #[.int .u64 0, .int .u64 0, .int .u8 0, .int .u8 0, .int .u8 0, .int .u8 0, .int .u8 0, .int .u8 0, .int .u8 0, .int .u8 0, .int .u8 0, .int .u8 0, .string (⟨#[]⟩ : ByteArray)]) (t := 27) ?hr ?_; (case hd => rfl); (case hg => rfl); (case hr => first | (go_simp; done) | (go_simp; rfl)); intro gb405 hg w39 hbox hb; have n0_ := Aside0.mk (blk_below (g := gb387) (o := .cells #[.int .u64 a0_0, .int .u64 a0_1, .int .u8 a0_2, .int .u8 a0_3, .int .u8 a0_4, .int .u8 a0_5, .int .u8 a0_6, .int .u8 a0_7, .int .u8 a0_8, .int .u8 a0_9, .int .u8 a0_10, .int .u8 a0_11, .string a0_12] 27 (0, 0)) (by (with_reducible repeat (first | refine blk_drewN ?_ _ | refine blk_drew ?_ | refine blk_alloc ?_ _)); exact BK387.out) hb); have n1_ := Aside0.mk (below_step (by repeat (first | (with_reducible first | exact HB.out | apply below_alloc | apply pw_below_drewN | apply below_drew1 | refine below_set ?_ GE387.out) | exact HB.out)) hb); have n2_ := Aside0.mk (hbox); have n3_ := Aside0.mk ((by rw [hg]; exact (below_size (by repeat (first | (with_reducible first | exact HB.out | apply below_alloc | apply pw_below_drewN | apply below_drew1 | refine below_set ?_ GE387.out) | exact HB.out))) : w.heap.size ≤ gb405)); have n4_ := Aside0.mk ((by rw [hg]; exact (below_size (by repeat (first | (with_reducible first | exact HB.out | apply below_alloc | apply pw_below_drewN | apply below_drew1 | refine below_set ?_ GE387.out) | exact HB.out))) : w.heap.size ≤ gb405)); have n5_ := Aside0.mk ((by rw [hg]; exact Nat.ne_of_lt (blk_lt (g := gb387) (o := .cells #[.int .u64 a0_0, .int .u64 a0_1, .int .u8 a0_2, .int .u8 a0_3, .int .u8 a0_4, .int .u8 a0_5, .int .u8 a0_6, .int .u8 a0_7, .int .u8 a0_8, .int .u8 a0_9, .int .u8 a0_10, .int .u8 a0_11, .string a0_12] 27 (0, 0)) (by (with_reducible repeat (first | refine blk_drewN ?_ _ | refine blk_drew ?_ | refine blk_alloc ?_ _)); exact BK387.out)) : gb387 ≠ gb405)); have n6_ := Aside0.mk ((by rw [hg]; exact Nat.ne_of_gt (blk_lt (g := gb387) (o := .cells #[.int .u64 a0_0, .int .u64 a0_1, .int .u8 a0_2, .int .u8 a0_3, .int .u8 a0_4, .int .u8 a0_5, .int .u8 a0_6, .int .u8 a0_7, .int .u8 a0_8, .int .u8 a0_9, .int .u8 a0_10, .int .u8 a0_11, .string a0_12] 27 (0, 0)) (by (with_reducible repeat (first | refine blk_drewN ?_ _ | refine blk_drew ?_ | refine blk_alloc ?_ _)); exact BK387.out)) : gb405 ≠ gb387)); clear BK387; clear HB; have BK387 := n0_; have HB := n1_; have BK405 := n2_; have GW405 := n3_; have GE405 := n4_; have NB387_405 := n5_; have NB405_387 := n6_; clear n0_ n1_ n2_ n3_ n4_ n5_ n6_; clear hb hbox hg; have hnb40 := NB405_387.out; have hnc40 := NB387_405.out; have hcz41_0 : w39.cell? ⟨gb405, 0, none⟩ = some (.int .u64 0) := (blk_cell BK405.out 0).trans rfl; have hcz41_1 : w39.cell? ⟨gb405, 1, none⟩ = some (.int .u64 0) := (blk_cell BK405.out 1).trans rfl; have hcz41_2 : w39.cell? ⟨gb405, 2, none⟩ = some (.int .u8 0) := (blk_cell BK405.out 2).trans rfl; have hcz41_3 : w39.cell? ⟨gb405, 3, none⟩ = some (.int .u8 0) := (blk_cell BK405.out 3).trans rfl; have hcz41_4 : w39.cell? ⟨gb405, 4, none⟩ = some (.int .u8 0) := (blk_cell BK405.out 4).trans rfl; have hcz41_5 : w39.cell? ⟨gb405, 5, none⟩ = some (.int .u8 0) := (blk_cell BK405.out 5).trans rfl; have hcz41_6 : w39.cell? ⟨gb405, 6, none⟩ = some (.int .u8 0) := (blk_cell BK405.out 6).trans rfl; have hcz41_7 : w39.cell? ⟨gb405, 7, none⟩ = some (.int .u8 0) := (blk_cell BK405.out 7).trans rfl; have hcz41_8 : w39.cell? ⟨gb405, 8, none⟩ = some (.int .u8 0) := (blk_cell BK405.out 8).trans rfl; have hcz41_9 : w39.cell? ⟨gb405, 9, none⟩ = some (.int .u8 0) := (blk_cell BK405.out 9).trans rfl; have hcz41_10 : w39.cell? ⟨gb405, 10, none⟩ = some (.int .u8 0) := (blk_cell BK405.out 10).trans rfl; have hcz41_11 : w39.cell? ⟨gb405, 11, none⟩ = some (.int .u8 0) := (blk_cell BK405.out 11).trans rfl; have hcz41_12 : w39.cell? ⟨gb405, 12, none⟩ = some (.string (⟨#[]⟩ : ByteArray)) := (blk_cell BK405.out 12).trans rfl; have hfz41_0 := blk_frozen BK405.out 0; have hfz41_1 := blk_frozen BK405.out 1; have hfz41_2 := blk_frozen BK405.out 2; have hfz41_3 := blk_frozen BK405.out 3; have hfz41_4 := blk_frozen BK405.out 4; have hfz41_5 := blk_frozen BK405.out 5; have hfz41_6 := blk_frozen BK405.out 6; have hfz41_7 := blk_frozen BK405.out 7; have hfz41_8 := blk_frozen BK405.out 8; have hfz41_9 := blk_frozen BK405.out 9; have hfz41_10 := blk_frozen BK405.out 10; have hfz41_11 := blk_frozen BK405.out 11; have hfz41_12 := blk_frozen BK405.out 12) | ((with_reducible refine gate_callee (f := 11) rfl ?_); refine goesL_ (some 55) rfl rfl Try.func11 (by kernel_rfl) rfl #[.string (t389.extract 0 ((ji28) : Int).toNat)] rfl (by (try simp only [List.map_toArray, List.map_cons, List.map_nil]); first | done | (simp only [hji28]; rfl) | rfl | (simp only [List.length_drop, List.length_take]; rfl)) ?_; (with_reducible refine (entry_Read.calls kj12 (t389.extract 0 ((ji28) : Int).toNat) t406 t407 t408 t409 t410 t411 t412 t413 t414 t415 t416 t417 t418 false _ A31.out).mono ?_); rintro e w42 ⟨rfl, hb⟩; refine ⟨_, rfl, ?_⟩; have n0_ := Aside0.mk (blk_below (g := gb387) (o := .cells #[.int .u64 a0_0, .int .u64 a0_1, .int .u8 a0_2, .int .u8 a0_3, .int .u8 a0_4, .int .u8 a0_5, .int .u8 a0_6, .int .u8 a0_7, .int .u8 a0_8, .int .u8 a0_9, .int .u8 a0_10, .int .u8 a0_11, .string a0_12] 27 (0, 0)) (by (with_reducible repeat (first | refine blk_drewN ?_ _ | refine blk_drew ?_ | refine blk_alloc ?_ _)); refine blk_far ?_ NB387_405.out _; (with_reducible repeat (first | refine blk_drewN ?_ _ | refine blk_drew ?_ | refine blk_alloc ?_ _)); refine blk_far ?_ NB387_405.out _; (with_reducible repeat (first | refine blk_drewN ?_ _ | refine blk_drew ?_ | refine blk_alloc ?_ _)); refine blk_far ?_ NB387_405.out _; (with_reducible repeat (first | refine blk_drewN ?_ _ | refine blk_drew ?_ | refine blk_alloc ?_ _)); refine blk_far ?_ NB387_405.out _; (with_reducible repeat (first | refine blk_drewN ?_ _ | refine blk_drew ?_ | refine blk_alloc ?_ _)); refine blk_far ?_ NB387_405.out _; (with_reducible repeat (first | refine blk_drewN ?_ _ | refine blk_drew ?_ | refine blk_alloc ?_ _)); refine blk_far ?_ NB387_405.out _; (with_reducible repeat (first | refine blk_drewN ?_ _ | refine blk_drew ?_ | refine blk_alloc ?_ _)); refine blk_far ?_ NB387_405.out _; (with_reducible repeat (first | refine blk_drewN ?_ _ | refine blk_drew ?_ | refine blk_alloc ?_ _)); refine blk_far ?_ NB387_405.out _; (with_reducible repeat (first | refine blk_drewN ?_ _ | refine blk_drew ?_ | refine blk_alloc ?_ _)); refine blk_far ?_ NB387_405.out _; (with_reducible repeat (first | refine blk_drewN ?_ _ | refine blk_drew ?_ | refine blk_alloc ?_ _)); refine blk_far ?_ NB387_405.out _; (with_reducible repeat (first | refine blk_drewN ?_ _ | refine blk_drew ?_ | refine blk_alloc ?_ _)); refine blk_far ?_ NB387_405.out _; (with_reducible repeat (first | refine blk_drewN ?_ _ | refine blk_drew ?_ | refine blk_alloc ?_ _)); refine blk_far ?_ NB387_405.out _; (with_reducible repeat (first | refine blk_drewN ?_ _ | refine blk_drew ?_ | refine blk_alloc ?_ _)); refine blk_far ?_ NB387_405.out _; (with_reducible repeat (first | refine blk_drewN ?_ _ | refine blk_drew ?_ | refine blk_alloc ?_ _)); exact BK387.out) hb); have n1_ := Aside0.mk (blk_below (g := gb405) (o := .cells #[.int .u64 t391, .int .u64 t392, .int .u8 t393, .int .u8 t394, .int .u8 t395, .int .u8 t396, .int .u8 t397, .int .u8 t398, .int .u8 t399, .int .u8 t400, .int .u8 t401, .int .u8 t402, .string t403] 27 (0, 0)) (by (with_reducible repeat (first | refine blk_drewN ?_ _ | refine blk_drew ?_ | refine blk_alloc ?_ _)); refine blk_put (cs := #[.int .u64 t391, .int .u64 t392, .int .u8 t393, .int .u8 t394, .int .u8 t395, .int .u8 t396, .int .u8 t397, .int .u8 t398, .int .u8 t399, .int .u8 t400, .int .u8 t401, .int .u8 t402, .string (⟨#[]⟩ : ByteArray)]) ?_ 12 _ rfl; (with_reducible repeat (first | refine blk_drewN ?_ _ | refine blk_drew ?_ | refine blk_alloc ?_ _)); refine blk_put (cs := #[.int .u64 t391, .int .u64 t392, .int .u8 t393, .int .u8 t394, .int .u8 t395, .int .u8 t396, .int .u8 t397, .int .u8 t398, .int .u8 t399, .int .u8 t400, .int .u8 t401, .int .u8 0, .string (⟨#[]⟩ : ByteArray)]) ?_ 11 _ rfl; (with_reducible repeat (first | refine blk_drewN ?_ _ | refine blk_drew ?_ | refine blk_alloc ?_ _)); refine blk_put (cs := #[.int .u64 t391, .int .u64 t392, .int .u8 t393, .int .u8 t394, .int .u8 t395, .int .u8 t396, .int .u8 t397, .int .u8 t398, .int .u8 t399, .int .u8 t400, .int .u8 0, .int .u8 0, .string (⟨#[]⟩ : ByteArray)]) ?_ 10 _ rfl; (with_reducible repeat (first | refine blk_drewN ?_ _ | refine blk_drew ?_ | refine blk_alloc ?_ _)); refine blk_put (cs := #[.int .u64 t391, .int .u64 t392, .int .u8 t393, .int .u8 t394, .int .u8 t395, .int .u8 t396, .int .u8 t397, .int .u8 t398, .int .u8 t399, .int .u8 0, .int .u8 0, .int .u8 0, .string (⟨#[]⟩ : ByteArray)]) ?_ 9 _ rfl; (with_reducible repeat (first | refine blk_drewN ?_ _ | refine blk_drew ?_ | refine blk_alloc ?_ _)); refine blk_put (cs := #[.int .u64 t391, .int .u64 t392, .int .u8 t393, .int .u8 t394, .int .u8 t395, .int .u8 t396, .int .u8 t397, .int .u8 t398, .int .u8 0, .int .u8 0, .int .u8 0, .int .u8 0, .string (⟨#[]⟩ : ByteArray)]) ?_ 8 _ rfl; (with_reducible repeat (first | refine blk_drewN ?_ _ | refine blk_drew ?_ | refine blk_alloc ?_ _)); refine blk_put (cs := #[.int .u64 t391, .int .u64 t392, .int .u8 t393, .int .u8 t394, .int .u8 t395, .int .u8 t396, .int .u8 t397, .int .u8 0, .int .u8 0, .int .u8 0, .int .u8 0, .int .u8 0, .string (⟨#[]⟩ : ByteArray)]) ?_ 7 _ rfl; (with_reducible repeat (first | refine blk_drewN ?_ _ | refine blk_drew ?_ | refine blk_alloc ?_ _)); refine blk_put (cs := #[.int .u64 t391, .int .u64 t392, .int .u8 t393, .int .u8 t394, .int .u8 t395, .int .u8 t396, .int .u8 0, .int .u8 0, .int .u8 0, .int .u8 0, .int .u8 0, .int .u8 0, .string (⟨#[]⟩ : ByteArray)]) ?_ 6 _ rfl; (with_reducible repeat (first | refine blk_drewN ?_ _ | refine blk_drew ?_ | refine blk_alloc ?_ _)); refine blk_put (cs := #[.int .u64 t391, .int .u64 t392, .int .u8 t393, .int .u8 t394, .int .u8 t395, .int .u8 0, .int .u8 0, .int .u8 0, .int .u8 0, .int .u8 0, .int .u8 0, .int .u8 0, .string (⟨#[]⟩ : ByteArray)]) ?_ 5 _ rfl; (with_reducible repeat (first | refine blk_drewN ?_ _ | refine blk_drew ?_ | refine blk_alloc ?_ _)); refine blk_put (cs := #[.int .u64 t391, .int .u64 t392, .int .u8 t393, .int .u8 t394, .int .u8 0, .int .u8 0, .int .u8 0, .int .u8 0, .int .u8 0, .int .u8 0, .int .u8 0, .int .u8 0, .string (⟨#[]⟩ : ByteArray)]) ?_ 4 _ rfl; (with_reducible repeat (first | refine blk_drewN ?_ _ | refine blk_drew ?_ | refine blk_alloc ?_ _)); refine blk_put (cs := #[.int .u64 t391, .int .u64 t392, .int .u8 t393, .int .u8 0, .int .u8 0, .int .u8 0, .int .u8 0, .int .u8 0, .int .u8 0, .int .u8 0, .int .u8 0, .int .u8 0, .string (⟨#[]⟩ : ByteArray)]) ?_ 3 _ rfl; (with_reducible repeat (first | refine blk_drewN ?_ _ | refine blk_drew ?_ | refine blk_alloc ?_ _)); refine blk_put (cs := #[.int .u64 t391, .int .u64 t392, .int .u8 0, .int .u8 0, .int .u8 0, .int .u8 0, .int .u8 0, .int .u8 0, .int .u8 0, .int .u8 0, .int .u8 0, .int .u8 0, .string (⟨#[]⟩ : ByteArray)]) ?_ 2 _ rfl; (with_reducible repeat (first | refine blk_drewN ?_ _ | refine blk_drew ?_ | refine blk_alloc ?_ _)); refine blk_put (cs := #[.int .u64 t391, .int .u64 0, .int .u8 0, .int .u8 0, .int .u8 0, .int .u8 0, .int .u8 0, .int .u8 0, .int .u8 0, .int .u8 0, .int .u8 0, .int .u8 0, .string (⟨#[]⟩ : ByteArray)]) ?_ 1 _ rfl; (with_reducible repeat (first | refine blk_drewN ?_ _ | refine blk_drew ?_ | refine blk_alloc ?_ _)); refine blk_put (cs := #[.int .u64 0, .int .u64 0, .int .u8 0, .int .u8 0, .int .u8 0, .int .u8 0, .int .u8 0, .int .u8 0, .int .u8 0, .int .u8 0, .int .u8 0, .int .u8 0, .string (⟨#[]⟩ : ByteArray)]) ?_ 0 _ rfl; (with_reducible repeat (first | refine blk_drewN ?_ _ | refine blk_drew ?_ | refine blk_alloc ?_ _)); exact BK405.out) hb); have n2_ := Aside0.mk (below_step (by repeat (first | (with_reducible first | exact HB.out | apply below_alloc | apply pw_below_drewN | apply below_drew1 | refine below_set ?_ GE387.out | refine below_set ?_ GE405.out) | exact HB.out)) hb); clear BK387; clear BK405; clear HB; have BK387 := n0_; have BK405 := n1_; have HB := n2_; clear n0_ n1_ n2_; (try clear hb); (try clear hb2); (try clear hk); (try clear hi)) | ((with_reducible refine gate_dst (N := 12) rfl ?_); (try (refine gate_guard (by rfl) ?_; dsimp only)); refine box_event ?hg (N := 12) ?hd (cs := #[.int .u64 0, .int .u64 0, .int .u8 0, .int .u8 0, .int .u8 0, .int .u8 0, .int .u8 0, .int .u8 0, .int .u8 0, .int .u8 0, .int .u8 0, .int .u8 0, .string (⟨#[]⟩ : ByteArray)]) (t := 27) ?hr ?_; (case hd => rfl); (case hg => rfl); (case hr => first | (go_simp; done) | (go_simp; rfl)); intro gb420 hg w43 hbox hb; have n0_ := Aside0.mk (blk_below (g := gb387) (o := .cells #[.int .u64 a0_0, .int .u64 a0_1, .int .u8 a0_2, .int .u8 a0_3, .int .u8 a0_4, .int .u8 a0_5, .int .u8 a0_6, .int .u8 a0_7, .int .u8 a0_8, .int .u8 a0_9, .int .u8 a0_10, .int .u8 a0_11, .string a0_12] 27 (0, 0)) (by (with_reducible repeat (first | refine blk_drewN ?_ _ | refine blk_drew ?_ | refine blk_alloc ?_ _)); exact BK387.out) hb); have n1_ := Aside0.mk (blk_below (g := gb405) (o := .cells #[.int .u64 t391, .int .u64 t392, .int .u8 t393, .int .u8 t394, .int .u8 t395, .int .u8 t396, .int .u8 t397, .int .u8 t398, .int .u8 t399, .int .u8 t400, .int .u8 t401, .int .u8 t402, .string t403] 27 (0, 0)) (by (with_reducible repeat (first | refine blk_drewN ?_ _ | refine blk_drew ?_ | refine blk_alloc ?_ _)); exact BK405.out) hb); have n2_ := Aside0.mk (below_step (by repeat (first | (with_reducible first | exact HB.out | apply below_alloc | apply pw_below_drewN | apply below_drew1 | refine below_set ?_ GE387.out | refine below_set ?_ GE405.out) | exact HB.out)) hb); have n3_ := Aside0.mk (hbox); have n4_ := Aside0.mk ((by rw [hg]; exact (below_size (by repeat (first | (with_reducible first | exact HB.out | apply below_alloc | apply pw_below_drewN | apply below_drew1 | refine below_set ?_ GE387.out | refine below_set ?_ GE405.out) | exact HB.out))) : w.heap.size ≤ gb420)); have n5_ := Aside0.mk ((by rw [hg]; exact (below_size (by repeat (first | (with_reducible first | exact HB.out | apply below_alloc | apply pw_below_drewN | apply below_drew1 | refine below_set ?_ GE387.out | refine below_set ?_ GE405.out) | exact HB.out))) : w.heap.size ≤ gb420)); have n6_ := Aside0.mk ((by rw [hg]; exact Nat.ne_of_lt (blk_lt (g := gb387) (o := .cells #[.int .u64 a0_0, .int .u64 a0_1, .int .u8 a0_2, .int .u8 a0_3, .int .u8 a0_4, .int .u8 a0_5, .int .u8 a0_6, .int .u8 a0_7, .int .u8 a0_8, .int .u8 a0_9, .int .u8 a0_10, .int .u8 a0_11, .string a0_12] 27 (0, 0)) (by (with_reducible repeat (first | refine blk_drewN ?_ _ | refine blk_drew ?_ | refine blk_alloc ?_ _)); exact BK387.out)) : gb387 ≠ gb420)); have n7_ := Aside0.mk ((by rw [hg]; exact Nat.ne_of_gt (blk_lt (g := gb387) (o := .cells #[.int .u64 a0_0, .int .u64 a0_1, .int .u8 a0_2, .int .u8 a0_3, .int .u8 a0_4, .int .u8 a0_5, .int .u8 a0_6, .int .u8 a0_7, .int .u8 a0_8, .int .u8 a0_9, .int .u8 a0_10, .int .u8 a0_11, .string a0_12] 27 (0, 0)) (by (with_reducible repeat (first | refine blk_drewN ?_ _ | refine blk_drew ?_ | refine blk_alloc ?_ _)); exact BK387.out)) : gb420 ≠ gb387)); have n8_ := Aside0.mk ((by rw [hg]; exact Nat.ne_of_lt (blk_lt (g := gb405) (o := .cells #[.int .u64 t391, .int .u64 t392, .int .u8 t393, .int .u8 t394, .int .u8 t395, .int .u8 t396, .int .u8 t397, .int .u8 t398, .int .u8 t399, .int .u8 t400, .int .u8 t401, .int .u8 t402, .string t403] 27 (0, 0)) (by (with_reducible repeat (first | refine blk_drewN ?_ _ | refine blk_drew ?_ | refine blk_alloc ?_ _)); exact BK405.out)) : gb405 ≠ gb420)); have n9_ := Aside0.mk ((by rw [hg]; exact Nat.ne_of_gt (blk_lt (g := gb405) (o := .cells #[.int .u64 t391, .int .u64 t392, .int .u8 t393, .int .u8 t394, .int .u8 t395, .int .u8 t396, .int .u8 t397, .int .u8 t398, .int .u8 t399, .int .u8 t400, .int .u8 t401, .int .u8 t402, .string t403] 27 (0, 0)) (by (with_reducible repeat (first | refine blk_drewN ?_ _ | refine blk_drew ?_ | refine blk_alloc ?_ _)); exact BK405.out)) : gb420 ≠ gb405)); clear BK387; clear BK405; clear HB; have BK387 := n0_; have BK405 := n1_; have HB := n2_; have BK420 := n3_; have GW420 := n4_; have GE420 := n5_; have NB387_420 := n6_; have NB420_387 := n7_; have NB405_420 := n8_; have NB420_405 := n9_; clear n0_ n1_ n2_ n3_ n4_ n5_ n6_ n7_ n8_ n9_; clear hb hbox hg; have hnb44 := NB420_387.out; have hnc44 := NB387_420.out; have hnb45 := NB420_405.out; have hnc45 := NB405_420.out; have hcz46_0 : w43.cell? ⟨gb420, 0, none⟩ = some (.int .u64 0) := (blk_cell BK420.out 0).trans rfl; have hcz46_1 : w43.cell? ⟨gb420, 1, none⟩ = some (.int .u64 0) := (blk_cell BK420.out 1).trans rfl; have hcz46_2 : w43.cell? ⟨gb420, 2, none⟩ = some (.int .u8 0) := (blk_cell BK420.out 2).trans rfl; have hcz46_3 : w43.cell? ⟨gb420, 3, none⟩ = some (.int .u8 0) := (blk_cell BK420.out 3).trans rfl; have hcz46_4 : w43.cell? ⟨gb420, 4, none⟩ = some (.int .u8 0) := (blk_cell BK420.out 4).trans rfl; have hcz46_5 : w43.cell? ⟨gb420, 5, none⟩ = some (.int .u8 0) := (blk_cell BK420.out 5).trans rfl; have hcz46_6 : w43.cell? ⟨gb420, 6, none⟩ = some (.int .u8 0) := (blk_cell BK420.out 6).trans rfl; have hcz46_7 : w43.cell? ⟨gb420, 7, none⟩ = some (.int .u8 0) := (blk_cell BK420.out 7).trans rfl; have hcz46_8 : w43.cell? ⟨gb420, 8, none⟩ = some (.int .u8 0) := (blk_cell BK420.out 8).trans rfl; have hcz46_9 : w43.cell? ⟨gb420, 9, none⟩ = some (.int .u8 0) := (blk_cell BK420.out 9).trans rfl; have hcz46_10 : w43.cell? ⟨gb420, 10, none⟩ = some (.int .u8 0) := (blk_cell BK420.out 10).trans rfl; have hcz46_11 : w43.cell? ⟨gb420, 11, none⟩ = some (.int .u8 0) := (blk_cell BK420.out 11).trans rfl; have hcz46_12 : w43.cell? ⟨gb420, 12, none⟩ = some (.string (⟨#[]⟩ : ByteArray)) := (blk_cell BK420.out 12).trans rfl; have hfz46_0 := blk_frozen BK420.out 0; have hfz46_1 := blk_frozen BK420.out 1; have hfz46_2 := blk_frozen BK420.out 2; have hfz46_3 := blk_frozen BK420.out 3; have hfz46_4 := blk_frozen BK420.out 4; have hfz46_5 := blk_frozen BK420.out 5; have hfz46_6 := blk_frozen BK420.out 6; have hfz46_7 := blk_frozen BK420.out 7; have hfz46_8 := blk_frozen BK420.out 8; have hfz46_9 := blk_frozen BK420.out 9; have hfz46_10 := blk_frozen BK420.out 10; have hfz46_11 := blk_frozen BK420.out 11; have hfz46_12 := blk_frozen BK420.out 12) | ((with_reducible refine gate_callee (f := 11) rfl ?_); refine goesL_ (some 62) rfl rfl Try.func11 (by kernel_rfl) rfl #[.string (t389 ++ a3)] rfl (by (try simp only [List.map_toArray, List.map_cons, List.map_nil]); first | done | rfl | (simp only [List.length_drop, List.length_take]; rfl)) ?_; (with_reducible refine (entry_Read.calls kj12 (t389 ++ a3) t421 t422 t423 t424 t425 t426 t427 t428 t429 t430 t431 t432 t433 t434 _ A33.out).mono ?_); rintro e w47 ⟨rfl, hb⟩; refine ⟨_, rfl, ?_⟩; have n0_ := Aside0.mk (blk_below (g := gb387) (o := .cells #[.int .u64 a0_0, .int .u64 a0_1, .int .u8 a0_2, .int .u8 a0_3, .int .u8 a0_4, .int .u8 a0_5, .int .u8 a0_6, .int .u8 a0_7, .int .u8 a0_8, .int .u8 a0_9, .int .u8 a0_10, .int .u8 a0_11, .string a0_12] 27 (0, 0)) (by (with_reducible repeat (first | refine blk_drewN ?_ _ | refine blk_drew ?_ | refine blk_alloc ?_ _)); refine blk_far ?_ NB387_420.out _; (with_reducible repeat (first | refine blk_drewN ?_ _ | refine blk_drew ?_ | refine blk_alloc ?_ _)); refine blk_far ?_ NB387_420.out _; (with_reducible repeat (first | refine blk_drewN ?_ _ | refine blk_drew ?_ | refine blk_alloc ?_ _)); refine blk_far ?_ NB387_420.out _; (with_reducible repeat (first | refine blk_drewN ?_ _ | refine blk_drew ?_ | refine blk_alloc ?_ _)); refine blk_far ?_ NB387_420.out _; (with_reducible repeat (first | refine blk_drewN ?_ _ | refine blk_drew ?_ | refine blk_alloc ?_ _)); refine blk_far ?_ NB387_420.out _; (with_reducible repeat (first | refine blk_drewN ?_ _ | refine blk_drew ?_ | refine blk_alloc ?_ _)); refine blk_far ?_ NB387_420.out _; (with_reducible repeat (first | refine blk_drewN ?_ _ | refine blk_drew ?_ | refine blk_alloc ?_ _)); refine blk_far ?_ NB387_420.out _; (with_reducible repeat (first | refine blk_drewN ?_ _ | refine blk_drew ?_ | refine blk_alloc ?_ _)); refine blk_far ?_ NB387_420.out _; (with_reducible repeat (first | refine blk_drewN ?_ _ | refine blk_drew ?_ | refine blk_alloc ?_ _)); refine blk_far ?_ NB387_420.out _; (with_reducible repeat (first | refine blk_drewN ?_ _ | refine blk_drew ?_ | refine blk_alloc ?_ _)); refine blk_far ?_ NB387_420.out _; (with_reducible repeat (first | refine blk_drewN ?_ _ | refine blk_drew ?_ | refine blk_alloc ?_ _)); refine blk_far ?_ NB387_420.out _; (with_reducible repeat (first | refine blk_drewN ?_ _ | refine blk_drew ?_ | refine blk_alloc ?_ _)); refine blk_far ?_ NB387_420.out _; (with_reducible repeat (first | refine blk_drewN ?_ _ | refine blk_drew ?_ | refine blk_alloc ?_ _)); refine blk_far ?_ NB387_420.out _; (with_reducible repeat (first | refine blk_drewN ?_ _ | refine blk_drew ?_ | refine blk_alloc ?_ _)); exact BK387.out) hb); have n1_ := Aside0.mk (blk_below (g := gb405) (o := .cells #[.int .u64 t391, .int .u64 t392, .int .u8 t393, .int .u8 t394, .int .u8 t395, .int .u8 t396, .int .u8 t397, .int .u8 t398, .int .u8 t399, .int .u8 t400, .int .u8 t401, .int .u8 t402, .string t403] 27 (0, 0)) (by (with_reducible repeat (first | refine blk_drewN ?_ _ | refine blk_drew ?_ | refine blk_alloc ?_ _)); refine blk_far ?_ NB405_420.out _; (with_reducible repeat (first | refine blk_drewN ?_ _ | refine blk_drew ?_ | refine blk_alloc ?_ _)); refine blk_far ?_ NB405_420.out _; (with_reducible repeat (first | refine blk_drewN ?_ _ | refine blk_drew ?_ | refine blk_alloc ?_ _)); refine blk_far ?_ NB405_420.out _; (with_reducible repeat (first | refine blk_drewN ?_ _ | refine blk_drew ?_ | refine blk_alloc ?_ _)); refine blk_far ?_ NB405_420.out _; (with_reducible repeat (first | refine blk_drewN ?_ _ | refine blk_drew ?_ | refine blk_alloc ?_ _)); refine blk_far ?_ NB405_420.out _; (with_reducible repeat (first | refine blk_drewN ?_ _ | refine blk_drew ?_ | refine blk_alloc ?_ _)); refine blk_far ?_ NB405_420.out _; (with_reducible repeat (first | refine blk_drewN ?_ _ | refine blk_drew ?_ | refine blk_alloc ?_ _)); refine blk_far ?_ NB405_420.out _; (with_reducible repeat (first | refine blk_drewN ?_ _ | refine blk_drew ?_ | refine blk_alloc ?_ _)); refine blk_far ?_ NB405_420.out _; (with_reducible repeat (first | refine blk_drewN ?_ _ | refine blk_drew ?_ | refine blk_alloc ?_ _)); refine blk_far ?_ NB405_420.out _; (with_reducible repeat (first | refine blk_drewN ?_ _ | refine blk_drew ?_ | refine blk_alloc ?_ _)); refine blk_far ?_ NB405_420.out _; (with_reducible repeat (first | refine blk_drewN ?_ _ | refine blk_drew ?_ | refine blk_alloc ?_ _)); refine blk_far ?_ NB405_420.out _; (with_reducible repeat (first | refine blk_drewN ?_ _ | refine blk_drew ?_ | refine blk_alloc ?_ _)); refine blk_far ?_ NB405_420.out _; (with_reducible repeat (first | refine blk_drewN ?_ _ | refine blk_drew ?_ | refine blk_alloc ?_ _)); refine blk_far ?_ NB405_420.out _; (with_reducible repeat (first | refine blk_drewN ?_ _ | refine blk_drew ?_ | refine blk_alloc ?_ _)); exact BK405.out) hb); have n2_ := Aside0.mk (blk_below (g := gb420) (o := .cells #[.int .u64 t406, .int .u64 t407, .int .u8 t408, .int .u8 t409, .int .u8 t410, .int .u8 t411, .int .u8 t412, .int .u8 t413, .int .u8 t414, .int .u8 t415, .int .u8 t416, .int .u8 t417, .string t418] 27 (0, 0)) (by (with_reducible repeat (first | refine blk_drewN ?_ _ | refine blk_drew ?_ | refine blk_alloc ?_ _)); refine blk_put (cs := #[.int .u64 t406, .int .u64 t407, .int .u8 t408, .int .u8 t409, .int .u8 t410, .int .u8 t411, .int .u8 t412, .int .u8 t413, .int .u8 t414, .int .u8 t415, .int .u8 t416, .int .u8 t417, .string (⟨#[]⟩ : ByteArray)]) ?_ 12 _ rfl; (with_reducible repeat (first | refine blk_drewN ?_ _ | refine blk_drew ?_ | refine blk_alloc ?_ _)); refine blk_put (cs := #[.int .u64 t406, .int .u64 t407, .int .u8 t408, .int .u8 t409, .int .u8 t410, .int .u8 t411, .int .u8 t412, .int .u8 t413, .int .u8 t414, .int .u8 t415, .int .u8 t416, .int .u8 0, .string (⟨#[]⟩ : ByteArray)]) ?_ 11 _ rfl; (with_reducible repeat (first | refine blk_drewN ?_ _ | refine blk_drew ?_ | refine blk_alloc ?_ _)); refine blk_put (cs := #[.int .u64 t406, .int .u64 t407, .int .u8 t408, .int .u8 t409, .int .u8 t410, .int .u8 t411, .int .u8 t412, .int .u8 t413, .int .u8 t414, .int .u8 t415, .int .u8 0, .int .u8 0, .string (⟨#[]⟩ : ByteArray)]) ?_ 10 _ rfl; (with_reducible repeat (first | refine blk_drewN ?_ _ | refine blk_drew ?_ | refine blk_alloc ?_ _)); refine blk_put (cs := #[.int .u64 t406, .int .u64 t407, .int .u8 t408, .int .u8 t409, .int .u8 t410, .int .u8 t411, .int .u8 t412, .int .u8 t413, .int .u8 t414, .int .u8 0, .int .u8 0, .int .u8 0, .string (⟨#[]⟩ : ByteArray)]) ?_ 9 _ rfl; (with_reducible repeat (first | refine blk_drewN ?_ _ | refine blk_drew ?_ | refine blk_alloc ?_ _)); refine blk_put (cs := #[.int .u64 t406, .int .u64 t407, .int .u8 t408, .int .u8 t409, .int .u8 t410, .int .u8 t411, .int .u8 t412, .int .u8 t413, .int .u8 0, .int .u8 0, .int .u8 0, .int .u8 0, .string (⟨#[]⟩ : ByteArray)]) ?_ 8 _ rfl; (with_reducible repeat (first | refine blk_drewN ?_ _ | refine blk_drew ?_ | refine blk_alloc ?_ _)); refine blk_put (cs := #[.int .u64 t406, .int .u64 t407, .int .u8 t408, .int .u8 t409, .int .u8 t410, .int .u8 t411, .int .u8 t412, .int .u8 0, .int .u8 0, .int .u8 0, .int .u8 0, .int .u8 0, .string (⟨#[]⟩ : ByteArray)]) ?_ 7 _ rfl; (with_reducible repeat (first | refine blk_drewN ?_ _ | refine blk_drew ?_ | refine blk_alloc ?_ _)); refine blk_put (cs := #[.int .u64 t406, .int .u64 t407, .int .u8 t408, .int .u8 t409, .int .u8 t410, .int .u8 t411, .int .u8 0, .int .u8 0, .int .u8 0, .int .u8 0, .int .u8 0, .int .u8 0, .string (⟨#[]⟩ : ByteArray)]) ?_ 6 _ rfl; (with_reducible repeat (first | refine blk_drewN ?_ _ | refine blk_drew ?_ | refine blk_alloc ?_ _)); refine blk_put (cs := #[.int .u64 t406, .int .u64 t407, .int .u8 t408, .int .u8 t409, .int .u8 t410, .int .u8 0, .int .u8 0, .int .u8 0, .int .u8 0, .int .u8 0, .int .u8 0, .int .u8 0, .string (⟨#[]⟩ : ByteArray)]) ?_ 5 _ rfl; (with_reducible repeat (first | refine blk_drewN ?_ _ | refine blk_drew ?_ | refine blk_alloc ?_ _)); refine blk_put (cs := #[.int .u64 t406, .int .u64 t407, .int .u8 t408, .int .u8 t409, .int .u8 0, .int .u8 0, .int .u8 0, .int .u8 0, .int .u8 0, .int .u8 0, .int .u8 0, .int .u8 0, .string (⟨#[]⟩ : ByteArray)]) ?_ 4 _ rfl; (with_reducible repeat (first | refine blk_drewN ?_ _ | refine blk_drew ?_ | refine blk_alloc ?_ _)); refine blk_put (cs := #[.int .u64 t406, .int .u64 t407, .int .u8 t408, .int .u8 0, .int .u8 0, .int .u8 0, .int .u8 0, .int .u8 0, .int .u8 0, .int .u8 0, .int .u8 0, .int .u8 0, .string (⟨#[]⟩ : ByteArray)]) ?_ 3 _ rfl; (with_reducible repeat (first | refine blk_drewN ?_ _ | refine blk_drew ?_ | refine blk_alloc ?_ _)); refine blk_put (cs := #[.int .u64 t406, .int .u64 t407, .int .u8 0, .int .u8 0, .int .u8 0, .int .u8 0, .int .u8 0, .int .u8 0, .int .u8 0, .int .u8 0, .int .u8 0, .int .u8 0, .string (⟨#[]⟩ : ByteArray)]) ?_ 2 _ rfl; (with_reducible repeat (first | refine blk_drewN ?_ _ | refine blk_drew ?_ | refine blk_alloc ?_ _)); refine blk_put (cs := #[.int .u64 t406, .int .u64 0, .int .u8 0, .int .u8 0, .int .u8 0, .int .u8 0, .int .u8 0, .int .u8 0, .int .u8 0, .int .u8 0, .int .u8 0, .int .u8 0, .string (⟨#[]⟩ : ByteArray)]) ?_ 1 _ rfl; (with_reducible repeat (first | refine blk_drewN ?_ _ | refine blk_drew ?_ | refine blk_alloc ?_ _)); refine blk_put (cs := #[.int .u64 0, .int .u64 0, .int .u8 0, .int .u8 0, .int .u8 0, .int .u8 0, .int .u8 0, .int .u8 0, .int .u8 0, .int .u8 0, .int .u8 0, .int .u8 0, .string (⟨#[]⟩ : ByteArray)]) ?_ 0 _ rfl; (with_reducible repeat (first | refine blk_drewN ?_ _ | refine blk_drew ?_ | refine blk_alloc ?_ _)); exact BK420.out) hb); have n3_ := Aside0.mk (below_step (by repeat (first | (with_reducible first | exact HB.out | apply below_alloc | apply pw_below_drewN | apply below_drew1 | refine below_set ?_ GE387.out | refine below_set ?_ GE405.out | refine below_set ?_ GE420.out) | exact HB.out)) hb); clear BK387; clear BK405; clear BK420; clear HB; have BK387 := n0_; have BK405 := n1_; have BK420 := n2_; have HB := n3_; clear n0_ n1_ n2_ n3_; (try clear hb); (try clear hb2); (try clear hk); (try clear hi)) | ((with_reducible refine gate_dst (N := 14) rfl ?_); (try (refine gate_guard (by rfl) ?_; dsimp only)); refine box_event ?hg (N := 14) ?hd (cs := #[.int .u64 0, .int .u64 0, .int .u8 0, .int .u8 0, .int .u8 0, .int .u8 0, .int .u8 0, .int .u8 0, .int .u8 0, .int .u8 0, .int .u8 0, .int .u8 0, .string (⟨#[]⟩ : ByteArray)]) (t := 27) ?hr ?_; (case hd => rfl); (case hg => rfl); (case hr => first | (go_simp; done) | (go_simp; rfl)); intro gb435 hg w48 hbox hb; have n0_ := Aside0.mk (blk_below (g := gb387) (o := .cells #[.int .u64 a0_0, .int .u64 a0_1, .int .u8 a0_2, .int .u8 a0_3, .int .u8 a0_4, .int .u8 a0_5, .int .u8 a0_6, .int .u8 a0_7, .int .u8 a0_8, .int .u8 a0_9, .int .u8 a0_10, .int .u8 a0_11, .string a0_12] 27 (0, 0)) (by (with_reducible repeat (first | refine blk_drewN ?_ _ | refine blk_drew ?_ | refine blk_alloc ?_ _)); exact BK387.out) hb); have n1_ := Aside0.mk (blk_below (g := gb405) (o := .cells #[.int .u64 t391, .int .u64 t392, .int .u8 t393, .int .u8 t394, .int .u8 t395, .int .u8 t396, .int .u8 t397, .int .u8 t398, .int .u8 t399, .int .u8 t400, .int .u8 t401, .int .u8 t402, .string t403] 27 (0, 0)) (by (with_reducible repeat (first | refine blk_drewN ?_ _ | refine blk_drew ?_ | refine blk_alloc ?_ _)); exact BK405.out) hb); have n2_ := Aside0.mk (blk_below (g := gb420) (o := .cells #[.int .u64 t406, .int .u64 t407, .int .u8 t408, .int .u8 t409, .int .u8 t410, .int .u8 t411, .int .u8 t412, .int .u8 t413, .int .u8 t414, .int .u8 t415, .int .u8 t416, .int .u8 t417, .string t418] 27 (0, 0)) (by (with_reducible repeat (first | refine blk_drewN ?_ _ | refine blk_drew ?_ | refine blk_alloc ?_ _)); exact BK420.out) hb); have n3_ := Aside0.mk (below_step (by repeat (first | (with_reducible first | exact HB.out | apply below_alloc | apply pw_below_drewN | apply below_drew1 | refine below_set ?_ GE387.out | refine below_set ?_ GE405.out | refine below_set ?_ GE420.out) | exact HB.out)) hb); have n4_ := Aside0.mk (hbox); have n5_ := Aside0.mk ((by rw [hg]; exact (below_size (by repeat (first | (with_reducible first | exact HB.out | apply below_alloc | apply pw_below_drewN | apply below_drew1 | refine below_set ?_ GE387.out | refine below_set ?_ GE405.out | refine below_set ?_ GE420.out) | exact HB.out))) : w.heap.size ≤ gb435)); have n6_ := Aside0.mk ((by rw [hg]; exact (below_size (by repeat (first | (with_reducible first | exact HB.out | apply below_alloc | apply pw_below_drewN | apply below_drew1 | refine below_set ?_ GE387.out | refine below_set ?_ GE405.out | refine below_set ?_ GE420.out) | exact HB.out))) : w.heap.size ≤ gb435)); have n7_ := Aside0.mk ((by rw [hg]; exact Nat.ne_of_lt (blk_lt (g := gb387) (o := .cells #[.int .u64 a0_0, .int .u64 a0_1, .int .u8 a0_2, .int .u8 a0_3, .int .u8 a0_4, .int .u8 a0_5, .int .u8 a0_6, .int .u8 a0_7, .int .u8 a0_8, .int .u8 a0_9, .int .u8 a0_10, .int .u8 a0_11, .string a0_12] 27 (0, 0)) (by (with_reducible repeat (first | refine blk_drewN ?_ _ | refine blk_drew ?_ | refine blk_alloc ?_ _)); exact BK387.out)) : gb387 ≠ gb435)); have n8_ := Aside0.mk ((by rw [hg]; exact Nat.ne_of_gt (blk_lt (g := gb387) (o := .cells #[.int .u64 a0_0, .int .u64 a0_1, .int .u8 a0_2, .int .u8 a0_3, .int .u8 a0_4, .int .u8 a0_5, .int .u8 a0_6, .int .u8 a0_7, .int .u8 a0_8, .int .u8 a0_9, .int .u8 a0_10, .int .u8 a0_11, .string a0_12] 27 (0, 0)) (by (with_reducible repeat (first | refine blk_drewN ?_ _ | refine blk_drew ?_ | refine blk_alloc ?_ _)); exact BK387.out)) : gb435 ≠ gb387)); have n9_ := Aside0.mk ((by rw [hg]; exact Nat.ne_of_lt (blk_lt (g := gb405) (o := .cells #[.int .u64 t391, .int .u64 t392, .int .u8 t393, .int .u8 t394, .int .u8 t395, .int .u8 t396, .int .u8 t397, .int .u8 t398, .int .u8 t399, .int .u8 t400, .int .u8 t401, .int .u8 t402, .string t403] 27 (0, 0)) (by (with_reducible repeat (first | refine blk_drewN ?_ _ | refine blk_drew ?_ | refine blk_alloc ?_ _)); exact BK405.out)) : gb405 ≠ gb435)); have n10_ := Aside0.mk ((by rw [hg]; exact Nat.ne_of_gt (blk_lt (g := gb405) (o := .cells #[.int .u64 t391, .int .u64 t392, .int .u8 t393, .int .u8 t394, .int .u8 t395, .int .u8 t396, .int .u8 t397, .int .u8 t398, .int .u8 t399, .int .u8 t400, .int .u8 t401, .int .u8 t402, .string t403] 27 (0, 0)) (by (with_reducible repeat (first | refine blk_drewN ?_ _ | refine blk_drew ?_ | refine blk_alloc ?_ _)); exact BK405.out)) : gb435 ≠ gb405)); have n11_ := Aside0.mk ((by rw [hg]; exact Nat.ne_of_lt (blk_lt (g := gb420) (o := .cells #[.int .u64 t406, .int .u64 t407, .int .u8 t408, .int .u8 t409, .int .u8 t410, .int .u8 t411, .int .u8 t412, .int .u8 t413, .int .u8 t414, .int .u8 t415, .int .u8 t416, .int .u8 t417, .string t418] 27 (0, 0)) (by (with_reducible repeat (first | refine blk_drewN ?_ _ | refine blk_drew ?_ | refine blk_alloc ?_ _)); exact BK420.out)) : gb420 ≠ gb435)); have n12_ := Aside0.mk ((by rw [hg]; exact Nat.ne_of_gt (blk_lt (g := gb420) (o := .cells #[.int .u64 t406, .int .u64 t407, .int .u8 t408, .int .u8 t409, .int .u8 t410, .int .u8 t411, .int .u8 t412, .int .u8 t413, .int .u8 t414, .int .u8 t415, .int .u8 t416, .int .u8 t417, .string t418] 27 (0, 0)) (by (with_reducible repeat (first | refine blk_drewN ?_ _ | refine blk_drew ?_ | refine blk_alloc ?_ _)); exact BK420.out)) : gb435 ≠ gb420)); clear BK387; clear BK405; clear BK420; clear HB; have BK387 := n0_; have BK405 := n1_; have BK420 := n2_; have HB := n3_; have BK435 := n4_; have GW435 := n5_; have GE435 := n6_; have NB387_435 := n7_; have NB435_387 := n8_; have NB405_435 := n9_; have NB435_405 := n10_; have NB420_435 := n11_; have NB435_420 := n12_; clear n0_ n1_ n2_ n3_ n4_ n5_ n6_ n7_ n8_ n9_ n10_ n11_ n12_; clear hb hbox hg; have hnb49 := NB435_387.out; have hnc49 := NB387_435.out; have hnb50 := NB435_405.out; have hnc50 := NB405_435.out; have hnb51 := NB435_420.out; have hnc51 := NB420_435.out; have hcz52_0 : w48.cell? ⟨gb435, 0, none⟩ = some (.int .u64 0) := (blk_cell BK435.out 0).trans rfl; have hcz52_1 : w48.cell? ⟨gb435, 1, none⟩ = some (.int .u64 0) := (blk_cell BK435.out 1).trans rfl; have hcz52_2 : w48.cell? ⟨gb435, 2, none⟩ = some (.int .u8 0) := (blk_cell BK435.out 2).trans rfl; have hcz52_3 : w48.cell? ⟨gb435, 3, none⟩ = some (.int .u8 0) := (blk_cell BK435.out 3).trans rfl; have hcz52_4 : w48.cell? ⟨gb435, 4, none⟩ = some (.int .u8 0) := (blk_cell BK435.out 4).trans rfl; have hcz52_5 : w48.cell? ⟨gb435, 5, none⟩ = some (.int .u8 0) := (blk_cell BK435.out 5).trans rfl; have hcz52_6 : w48.cell? ⟨gb435, 6, none⟩ = some (.int .u8 0) := (blk_cell BK435.out 6).trans rfl; have hcz52_7 : w48.cell? ⟨gb435, 7, none⟩ = some (.int .u8 0) := (blk_cell BK435.out 7).trans rfl; have hcz52_8 : w48.cell? ⟨gb435, 8, none⟩ = some (.int .u8 0) := (blk_cell BK435.out 8).trans rfl; have hcz52_9 : w48.cell? ⟨gb435, 9, none⟩ = some (.int .u8 0) := (blk_cell BK435.out 9).trans rfl; have hcz52_10 : w48.cell? ⟨gb435, 10, none⟩ = some (.int .u8 0) := (blk_cell BK435.out 10).trans rfl; have hcz52_11 : w48.cell? ⟨gb435, 11, none⟩ = some (.int .u8 0) := (blk_cell BK435.out 11).trans rfl; have hcz52_12 : w48.cell? ⟨gb435, 12, none⟩ = some (.string (⟨#[]⟩ : ByteArray)) := (blk_cell BK435.out 12).trans rfl; have hfz52_0 := blk_frozen BK435.out 0; have hfz52_1 := blk_frozen BK435.out 1; have hfz52_2 := blk_frozen BK435.out 2; have hfz52_3 := blk_frozen BK435.out 3; have hfz52_4 := blk_frozen BK435.out 4; have hfz52_5 := blk_frozen BK435.out 5; have hfz52_6 := blk_frozen BK435.out 6; have hfz52_7 := blk_frozen BK435.out 7; have hfz52_8 := blk_frozen BK435.out 8; have hfz52_9 := blk_frozen BK435.out 9; have hfz52_10 := blk_frozen BK435.out 10; have hfz52_11 := blk_frozen BK435.out 11; have hfz52_12 := blk_frozen BK435.out 12; have hcz53_0 : w48.cell? ⟨gb405, 0, none⟩ = some (.int .u64 t391) := (blk_cell BK405.out 0).trans rfl; have hcz53_1 : w48.cell? ⟨gb405, 1, none⟩ = some (.int .u64 t392) := (blk_cell BK405.out 1).trans rfl; have hcz53_2 : w48.cell? ⟨gb405, 2, none⟩ = some (.int .u8 t393) := (blk_cell BK405.out 2).trans rfl; have hcz53_3 : w48.cell? ⟨gb405, 3, none⟩ = some (.int .u8 t394) := (blk_cell BK405.out 3).trans rfl; have hcz53_4 : w48.cell? ⟨gb405, 4, none⟩ = some (.int .u8 t395) := (blk_cell BK405.out 4).trans rfl; have hcz53_5 : w48.cell? ⟨gb405, 5, none⟩ = some (.int .u8 t396) := (blk_cell BK405.out 5).trans rfl; have hcz53_6 : w48.cell? ⟨gb405, 6, none⟩ = some (.int .u8 t397) := (blk_cell BK405.out 6).trans rfl; have hcz53_7 : w48.cell? ⟨gb405, 7, none⟩ = some (.int .u8 t398) := (blk_cell BK405.out 7).trans rfl; have hcz53_8 : w48.cell? ⟨gb405, 8, none⟩ = some (.int .u8 t399) := (blk_cell BK405.out 8).trans rfl; have hcz53_9 : w48.cell? ⟨gb405, 9, none⟩ = some (.int .u8 t400) := (blk_cell BK405.out 9).trans rfl; have hcz53_10 : w48.cell? ⟨gb405, 10, none⟩ = some (.int .u8 t401) := (blk_cell BK405.out 10).trans rfl; have hcz53_11 : w48.cell? ⟨gb405, 11, none⟩ = some (.int .u8 t402) := (blk_cell BK405.out 11).trans rfl; have hcz53_12 : w48.cell? ⟨gb405, 12, none⟩ = some (.string t403) := (blk_cell BK405.out 12).trans rfl; have hfz53_0 := blk_frozen BK405.out 0; have hfz53_1 := blk_frozen BK405.out 1; have hfz53_2 := blk_frozen BK405.out 2; have hfz53_3 := blk_frozen BK405.out 3; have hfz53_4 := blk_frozen BK405.out 4; have hfz53_5 := blk_frozen BK405.out 5; have hfz53_6 := blk_frozen BK405.out 6; have hfz53_7 := blk_frozen BK405.out 7; have hfz53_8 := blk_frozen BK405.out 8; have hfz53_9 := blk_frozen BK405.out 9; have hfz53_10 := blk_frozen BK405.out 10; have hfz53_11 := blk_frozen BK405.out 11; have hfz53_12 := blk_frozen BK405.out 12; have hcz54_0 : w48.cell? ⟨gb387, 0, none⟩ = some (.int .u64 a0_0) := (blk_cell BK387.out 0).trans rfl; have hcz54_1 : w48.cell? ⟨gb387, 1, none⟩ = some (.int .u64 a0_1) := (blk_cell BK387.out 1).trans rfl; have hcz54_2 : w48.cell? ⟨gb387, 2, none⟩ = some (.int .u8 a0_2) := (blk_cell BK387.out 2).trans rfl; have hcz54_3 : w48.cell? ⟨gb387, 3, none⟩ = some (.int .u8 a0_3) := (blk_cell BK387.out 3).trans rfl; have hcz54_4 : w48.cell? ⟨gb387, 4, none⟩ = some (.int .u8 a0_4) := (blk_cell BK387.out 4).trans rfl; have hcz54_5 : w48.cell? ⟨gb387, 5, none⟩ = some (.int .u8 a0_5) := (blk_cell BK387.out 5).trans rfl; have hcz54_6 : w48.cell? ⟨gb387, 6, none⟩ = some (.int .u8 a0_6) := (blk_cell BK387.out 6).trans rfl; have hcz54_7 : w48.cell? ⟨gb387, 7, none⟩ = some (.int .u8 a0_7) := (blk_cell BK387.out 7).trans rfl; have hcz54_8 : w48.cell? ⟨gb387, 8, none⟩ = some (.int .u8 a0_8) := (blk_cell BK387.out 8).trans rfl; have hcz54_9 : w48.cell? ⟨gb387, 9, none⟩ = some (.int .u8 a0_9) := (blk_cell BK387.out 9).trans rfl; have hcz54_10 : w48.cell? ⟨gb387, 10, none⟩ = some (.int .u8 a0_10) := (blk_cell BK387.out 10).trans rfl; have hcz54_11 : w48.cell? ⟨gb387, 11, none⟩ = some (.int .u8 a0_11) := (blk_cell BK387.out 11).trans rfl; have hcz54_12 : w48.cell? ⟨gb387, 12, none⟩ = some (.string a0_12) := (blk_cell BK387.out 12).trans rfl; have hfz54_0 := blk_frozen BK387.out 0; have hfz54_1 := blk_frozen BK387.out 1; have hfz54_2 := blk_frozen BK387.out 2; have hfz54_3 := blk_frozen BK387.out 3; have hfz54_4 := blk_frozen BK387.out 4; have hfz54_5 := blk_frozen BK387.out 5; have hfz54_6 := blk_frozen BK387.out 6; have hfz54_7 := blk_frozen BK387.out 7; have hfz54_8 := blk_frozen BK387.out 8; have hfz54_9 := blk_frozen BK387.out 9; have hfz54_10 := blk_frozen BK387.out 10; have hfz54_11 := blk_frozen BK387.out 11; have hfz54_12 := blk_frozen BK387.out 12))
                 go_meet
                 case rel => exact ⟨_, H', ⟨by have := HJ4.out; have := HJ12.out; first | omega | exact Nat.le_refl _⟩, ⟨by (with_reducible repeat (first | refine blk_drewN ?_ _ | refine blk_drew ?_ | refine blk_alloc ?_ _)); refine blk_far ?_ NB387_435.out _; (with_reducible repeat (first | refine blk_drewN ?_ _ | refine blk_drew ?_ | refine blk_alloc ?_ _)); refine blk_far ?_ NB387_435.out _; (with_reducible repeat (first | refine blk_drewN ?_ _ | refine blk_drew ?_ | refine blk_alloc ?_ _)); refine blk_far ?_ NB387_435.out _; (with_reducible repeat (first | refine blk_drewN ?_ _ | refine blk_drew ?_ | refine blk_alloc ?_ _)); refine blk_far ?_ NB387_435.out _; (with_reducible repeat (first | refine blk_drewN ?_ _ | refine blk_drew ?_ | refine blk_alloc ?_ _)); refine blk_far ?_ NB387_435.out _; (with_reducible repeat (first | refine blk_drewN ?_ _ | refine blk_drew ?_ | refine blk_alloc ?_ _)); refine blk_far ?_ NB387_435.out _; (with_reducible repeat (first | refine blk_drewN ?_ _ | refine blk_drew ?_ | refine blk_alloc ?_ _)); refine blk_far ?_ NB387_435.out _; (with_reducible repeat (first | refine blk_drewN ?_ _ | refine blk_drew ?_ | refine blk_alloc ?_ _)); refine blk_far ?_ NB387_435.out _; (with_reducible repeat (first | refine blk_drewN ?_ _ | refine blk_drew ?_ | refine blk_alloc ?_ _)); refine blk_far ?_ NB387_435.out _; (with_reducible repeat (first | refine blk_drewN ?_ _ | refine blk_drew ?_ | refine blk_alloc ?_ _)); refine blk_far ?_ NB387_435.out _; (with_reducible repeat (first | refine blk_drewN ?_ _ | refine blk_drew ?_ | refine blk_alloc ?_ _)); refine blk_far ?_ NB387_435.out _; (with_reducible repeat (first | refine blk_drewN ?_ _ | refine blk_drew ?_ | refine blk_alloc ?_ _)); refine blk_far ?_ NB387_435.out _; (with_reducible repeat (first | refine blk_drewN ?_ _ | refine blk_drew ?_ | refine blk_alloc ?_ _)); refine blk_far ?_ NB387_435.out _; (with_reducible repeat (first | refine blk_drewN ?_ _ | refine blk_drew ?_ | refine blk_alloc ?_ _)); exact BK387.out⟩, ⟨by repeat (first | (with_reducible first | exact HB.out | apply below_alloc | apply pw_below_drewN | apply below_drew1 | refine below_set ?_ GE387.out | refine below_set ?_ GE405.out | refine below_set ?_ GE420.out | refine below_set ?_ GE435.out) | exact HB.out)⟩⟩
             ·replace c34 := Bool.eq_false_iff.mpr c34
              subst c34
              have H1 : (some false) = some r := by rw [if_neg (show ¬ (false = true) by decide)] at H; exact H
              clear H
              have H := H1
              clear H1
              exact absurd (Option.some.inj H) (by rw [hr_]; decide)
            ·rw [if_neg c32] at H
             exact absurd H (by simp)
           ·rw [if_neg c30] at H
            exact absurd H (by simp)
          ·rw [if_neg c29] at H
           exact absurd H (by simp)
       case rest =>
        clear HC20
        try clear c1
        try clear c2
        try clear p2
        try clear c3
        try clear c4
        try clear c5
        try clear p6
        try clear c7
        try clear c7b0
        try clear c7b1
        try clear c9
        try clear c10
        try clear c11
        try clear c14
        try clear c14b0
        try clear c14b1
        try clear c15
        try clear c15b0
        try clear c15b1
        try clear c16
        try clear c16b0
        try clear c16b1
        try clear c19
        try clear c19b0
        try clear c19b1
        try clear c19b2
        try clear c25
        try clear c25b0
        try clear c25b1
        try clear c25b2
        try clear c27
        try clear c27b0
        try clear c27b1
        try clear c29
        try clear c29b0
        try clear c29b1
        try clear c30
        try clear c30b0
        try clear c30b1
        try clear c32
        try clear c32b0
        try clear c32b1
        try clear c32b2
        try clear c34
        try clear c35
        try clear c35b0
        try clear c36
        try clear c37
        try clear c37b0
        try clear c37b1
        try clear c37b2
        try clear c40
        try clear c44
        try clear c45
        try clear c49
        try clear c50
        try clear c51
        try clear hcz21_0
        try clear hcz21_1
        try clear hcz21_10
        try clear hcz21_11
        try clear hcz21_12
        try clear hcz21_2
        try clear hcz21_3
        try clear hcz21_4
        try clear hcz21_5
        try clear hcz21_6
        try clear hcz21_7
        try clear hcz21_8
        try clear hcz21_9
        try clear hcz23_0
        try clear hcz23_1
        try clear hcz23_10
        try clear hcz23_11
        try clear hcz23_12
        try clear hcz23_2
        try clear hcz23_3
        try clear hcz23_4
        try clear hcz23_5
        try clear hcz23_6
        try clear hcz23_7
        try clear hcz23_8
        try clear hcz23_9
        try clear hcz41_0
        try clear hcz41_1
        try clear hcz41_10
        try clear hcz41_11
        try clear hcz41_12
        try clear hcz41_2
        try clear hcz41_3
        try clear hcz41_4
        try clear hcz41_5
        try clear hcz41_6
        try clear hcz41_7
        try clear hcz41_8
        try clear hcz41_9
        try clear hcz46_0
        try clear hcz46_1
        try clear hcz46_10
        try clear hcz46_11
        try clear hcz46_12
        try clear hcz46_2
        try clear hcz46_3
        try clear hcz46_4
        try clear hcz46_5
        try clear hcz46_6
        try clear hcz46_7
        try clear hcz46_8
        try clear hcz46_9
        try clear hcz52_0
        try clear hcz52_1
        try clear hcz52_10
        try clear hcz52_11
        try clear hcz52_12
        try clear hcz52_2
        try clear hcz52_3
        try clear hcz52_4
        try clear hcz52_5
        try clear hcz52_6
        try clear hcz52_7
        try clear hcz52_8
        try clear hcz52_9
        try clear hcz53_0
        try clear hcz53_1
        try clear hcz53_10
        try clear hcz53_11
        try clear hcz53_12
        try clear hcz53_2
        try clear hcz53_3
        try clear hcz53_4
        try clear hcz53_5
        try clear hcz53_6
        try clear hcz53_7
        try clear hcz53_8
        try clear hcz53_9
        try clear hcz54_0
        try clear hcz54_1
        try clear hcz54_10
        try clear hcz54_11
        try clear hcz54_12
        try clear hcz54_2
        try clear hcz54_3
        try clear hcz54_4
        try clear hcz54_5
        try clear hcz54_6
        try clear hcz54_7
        try clear hcz54_8
        try clear hcz54_9
        try clear hcz8_0
        try clear hcz8_1
        try clear hcz8_10
        try clear hcz8_11
        try clear hcz8_12
        try clear hcz8_2
        try clear hcz8_3
        try clear hcz8_4
        try clear hcz8_5
        try clear hcz8_6
        try clear hcz8_7
        try clear hcz8_8
        try clear hcz8_9
        try clear hcz9_0
        try clear hcz9_1
        try clear hcz9_10
        try clear hcz9_11
        try clear hcz9_12
        try clear hcz9_2
        try clear hcz9_3
        try clear hcz9_4
        try clear hcz9_5
        try clear hcz9_6
        try clear hcz9_7
        try clear hcz9_8
        try clear hcz9_9
        try clear hfz21_0
        try clear hfz21_1
        try clear hfz21_10
        try clear hfz21_11
        try clear hfz21_12
        try clear hfz21_2
        try clear hfz21_3
        try clear hfz21_4
        try clear hfz21_5
        try clear hfz21_6
        try clear hfz21_7
        try clear hfz21_8
        try clear hfz21_9
        try clear hfz23_0
        try clear hfz23_1
        try clear hfz23_10
        try clear hfz23_11
        try clear hfz23_12
        try clear hfz23_2
        try clear hfz23_3
        try clear hfz23_4
        try clear hfz23_5
        try clear hfz23_6
        try clear hfz23_7
        try clear hfz23_8
        try clear hfz23_9
        try clear hfz41_0
        try clear hfz41_1
        try clear hfz41_10
        try clear hfz41_11
        try clear hfz41_12
        try clear hfz41_2
        try clear hfz41_3
        try clear hfz41_4
        try clear hfz41_5
        try clear hfz41_6
        try clear hfz41_7
        try clear hfz41_8
        try clear hfz41_9
        try clear hfz46_0
        try clear hfz46_1
        try clear hfz46_10
        try clear hfz46_11
        try clear hfz46_12
        try clear hfz46_2
        try clear hfz46_3
        try clear hfz46_4
        try clear hfz46_5
        try clear hfz46_6
        try clear hfz46_7
        try clear hfz46_8
        try clear hfz46_9
        try clear hfz52_0
        try clear hfz52_1
        try clear hfz52_10
        try clear hfz52_11
        try clear hfz52_12
        try clear hfz52_2
        try clear hfz52_3
        try clear hfz52_4
        try clear hfz52_5
        try clear hfz52_6
        try clear hfz52_7
        try clear hfz52_8
        try clear hfz52_9
        try clear hfz53_0
        try clear hfz53_1
        try clear hfz53_10
        try clear hfz53_11
        try clear hfz53_12
        try clear hfz53_2
        try clear hfz53_3
        try clear hfz53_4
        try clear hfz53_5
        try clear hfz53_6
        try clear hfz53_7
        try clear hfz53_8
        try clear hfz53_9
        try clear hfz54_0
        try clear hfz54_1
        try clear hfz54_10
        try clear hfz54_11
        try clear hfz54_12
        try clear hfz54_2
        try clear hfz54_3
        try clear hfz54_4
        try clear hfz54_5
        try clear hfz54_6
        try clear hfz54_7
        try clear hfz54_8
        try clear hfz54_9
        try clear hfz8_0
        try clear hfz8_1
        try clear hfz8_10
        try clear hfz8_11
        try clear hfz8_12
        try clear hfz8_2
        try clear hfz8_3
        try clear hfz8_4
        try clear hfz8_5
        try clear hfz8_6
        try clear hfz8_7
        try clear hfz8_8
        try clear hfz8_9
        try clear hfz9_0
        try clear hfz9_1
        try clear hfz9_10
        try clear hfz9_11
        try clear hfz9_12
        try clear hfz9_2
        try clear hfz9_3
        try clear hfz9_4
        try clear hfz9_5
        try clear hfz9_6
        try clear hfz9_7
        try clear hfz9_8
        try clear hfz9_9
        try clear p2
        try clear p6
        obtain ⟨kq, HA, HJ19, BK387, HB⟩ := hcut
        cases kq with
        | zero => exact absurd HA.out (by simp [wapentakelaw04_EntryBack.j2])
        | succ kj19 =>
         have H := HA.out
         clear HA
         simp only [wapentakelaw04_EntryBack.j2] at H
         replace H := Option.bind_eq_some_iff.mp H
         obtain ⟨⟨t436, t437, t438, t439, t440, t441, t442, t443, t444, t445, t446, t447, t448, t449⟩, A550, H⟩ := H
         replace H : (if t449 = true then ((entry_Right.f kj19 t436 t437 t438 t439 t440 t441 t442 t443 t444 t445 t446 t447 t448).bind fun t451 => (if t451 = true then ((entry_Write.f kj19 t436 t437 t438 t439 t440 t441 t442 t443 t444 t445 t446 t447 t448).bind fun t452 => (if t452.toList = x1_12.toList then ((wapentakelaw04_awake.f kj19).bind fun t453 => (some t453)) else (some false))) else (some false))) else (if (t436 == 0 && (t437 == 0 && (t438 == 0 && (t439 == 0 && ((t440 == 0 && (t441 == 0 && (t442 == 0 && (t443 == 0 && (t444 == 0 && (t445 == 0 && (t446 == 0 && (t447 == 0)))))))) && (t448.toList.isEmpty)))))) = true then ((wapentakelaw04_awake.f kj19).bind fun t454 => (some t454)) else (some false))) = some r := H
         have A55 := Aside0.mk A550
         clear A550
         by_cases c56 : t449 = true
         ·subst c56
          have H1 : ((entry_Right.f kj19 t436 t437 t438 t439 t440 t441 t442 t443 t444 t445 t446 t447 t448).bind fun t451 => (if t451 = true then ((entry_Write.f kj19 t436 t437 t438 t439 t440 t441 t442 t443 t444 t445 t446 t447 t448).bind fun t452 => (if t452.toList = x1_12.toList then ((wapentakelaw04_awake.f kj19).bind fun t453 => (some t453)) else (some false))) else (some false))) = some r := by rw [if_pos rfl] at H; exact H
          clear H
          have H := H1
          clear H1
          replace H := Option.bind_eq_some_iff.mp H
          obtain ⟨t451, A570, H⟩ := H
          replace H : (if t451 = true then ((entry_Write.f kj19 t436 t437 t438 t439 t440 t441 t442 t443 t444 t445 t446 t447 t448).bind fun t452 => (if t452.toList = x1_12.toList then ((wapentakelaw04_awake.f kj19).bind fun t453 => (some t453)) else (some false))) else (some false)) = some r := H
          have A57 := Aside0.mk A570
          clear A570
          by_cases c58 : t451 = true
          ·subst c58
           have H1 : ((entry_Write.f kj19 t436 t437 t438 t439 t440 t441 t442 t443 t444 t445 t446 t447 t448).bind fun t452 => (if t452.toList = x1_12.toList then ((wapentakelaw04_awake.f kj19).bind fun t453 => (some t453)) else (some false))) = some r := by rw [if_pos rfl] at H; exact H
           clear H
           have H := H1
           clear H1
           replace H := Option.bind_eq_some_iff.mp H
           obtain ⟨t452, A590, H⟩ := H
           replace H : (if t452.toList = x1_12.toList then ((wapentakelaw04_awake.f kj19).bind fun t453 => (some t453)) else (some false)) = some r := H
           have A59 := Aside0.mk A590
           clear A590
           by_cases c60 : t452.toList = x1_12.toList
           ·rw [if_pos c60] at H
            have c60b0 : (t452.toList == x1_12.toList) = true := beq_iff_eq.mpr c60
            have c60b1 : (t452.toList != x1_12.toList) = false := bne_eq_false_iff_eq.mpr c60
            clear c60
            replace H := Option.bind_eq_some_iff.mp H
            obtain ⟨t453, A610, H⟩ := H
            replace H : (some t453) = some r := H
            have A61 := Aside0.mk A610
            clear A610
            clear hr_
            obtain rfl := Option.some.inj H
            go_wp2_with (first | ((with_reducible refine gate_callee (f := 11) rfl ?_); refine goesL_ (some 83) rfl rfl Try.func11 (by kernel_rfl) rfl #[.string x1_12] rfl (by (try simp only [List.map_toArray, List.map_cons, List.map_nil]); first | done | rfl | (simp only [List.length_drop, List.length_take]; rfl)) ?_; (with_reducible refine (entry_Read.calls kj19 x1_12 t436 t437 t438 t439 t440 t441 t442 t443 t444 t445 t446 t447 t448 true _ A55.out).mono ?_); rintro e w62 ⟨rfl, hb⟩; refine ⟨_, rfl, ?_⟩; have n0_ := Aside0.mk (blk_below (g := gb387) (o := .cells #[.int .u64 a0_0, .int .u64 a0_1, .int .u8 a0_2, .int .u8 a0_3, .int .u8 a0_4, .int .u8 a0_5, .int .u8 a0_6, .int .u8 a0_7, .int .u8 a0_8, .int .u8 a0_9, .int .u8 a0_10, .int .u8 a0_11, .string a0_12] 27 (0, 0)) (by (with_reducible repeat (first | refine blk_drewN ?_ _ | refine blk_drew ?_ | refine blk_alloc ?_ _)); exact BK387.out) hb); have n1_ := Aside0.mk (below_step (by repeat (first | (with_reducible first | exact HB.out | apply below_alloc | apply pw_below_drewN | apply below_drew1 | refine below_set ?_ GE387.out) | exact HB.out)) hb); clear BK387; clear HB; have BK387 := n0_; have HB := n1_; clear n0_ n1_; (try clear hb); (try clear hb2); (try clear hk); (try clear hi)) | ((with_reducible refine gate_dst (N := 16) rfl ?_); (try (refine gate_guard (by rfl) ?_; dsimp only)); refine box_event ?hg (N := 16) ?hd (cs := #[.int .u64 0, .int .u64 0, .int .u8 0, .int .u8 0, .int .u8 0, .int .u8 0, .int .u8 0, .int .u8 0, .int .u8 0, .int .u8 0, .int .u8 0, .int .u8 0, .string (⟨#[]⟩ : ByteArray)]) (t := 27) ?hr ?_; (case hd => rfl); (case hg => rfl); (case hr => first | (go_simp; done) | (go_simp; rfl)); intro gb450 hg w63 hbox hb; have n0_ := Aside0.mk (blk_below (g := gb387) (o := .cells #[.int .u64 a0_0, .int .u64 a0_1, .int .u8 a0_2, .int .u8 a0_3, .int .u8 a0_4, .int .u8 a0_5, .int .u8 a0_6, .int .u8 a0_7, .int .u8 a0_8, .int .u8 a0_9, .int .u8 a0_10, .int .u8 a0_11, .string a0_12] 27 (0, 0)) (by (with_reducible repeat (first | refine blk_drewN ?_ _ | refine blk_drew ?_ | refine blk_alloc ?_ _)); exact BK387.out) hb); have n1_ := Aside0.mk (below_step (by repeat (first | (with_reducible first | exact HB.out | apply below_alloc | apply pw_below_drewN | apply below_drew1 | refine below_set ?_ GE387.out) | exact HB.out)) hb); have n2_ := Aside0.mk (hbox); have n3_ := Aside0.mk ((by rw [hg]; exact (below_size (by repeat (first | (with_reducible first | exact HB.out | apply below_alloc | apply pw_below_drewN | apply below_drew1 | refine below_set ?_ GE387.out) | exact HB.out))) : w.heap.size ≤ gb450)); have n4_ := Aside0.mk ((by rw [hg]; exact (below_size (by repeat (first | (with_reducible first | exact HB.out | apply below_alloc | apply pw_below_drewN | apply below_drew1 | refine below_set ?_ GE387.out) | exact HB.out))) : w.heap.size ≤ gb450)); have n5_ := Aside0.mk ((by rw [hg]; exact Nat.ne_of_lt (blk_lt (g := gb387) (o := .cells #[.int .u64 a0_0, .int .u64 a0_1, .int .u8 a0_2, .int .u8 a0_3, .int .u8 a0_4, .int .u8 a0_5, .int .u8 a0_6, .int .u8 a0_7, .int .u8 a0_8, .int .u8 a0_9, .int .u8 a0_10, .int .u8 a0_11, .string a0_12] 27 (0, 0)) (by (with_reducible repeat (first | refine blk_drewN ?_ _ | refine blk_drew ?_ | refine blk_alloc ?_ _)); exact BK387.out)) : gb387 ≠ gb450)); have n6_ := Aside0.mk ((by rw [hg]; exact Nat.ne_of_gt (blk_lt (g := gb387) (o := .cells #[.int .u64 a0_0, .int .u64 a0_1, .int .u8 a0_2, .int .u8 a0_3, .int .u8 a0_4, .int .u8 a0_5, .int .u8 a0_6, .int .u8 a0_7, .int .u8 a0_8, .int .u8 a0_9, .int .u8 a0_10, .int .u8 a0_11, .string a0_12] 27 (0, 0)) (by (with_reducible repeat (first | refine blk_drewN ?_ _ | refine blk_drew ?_ | refine blk_alloc ?_ _)); exact BK387.out)) : gb450 ≠ gb387)); clear BK387; clear HB; have BK387 := n0_; have HB := n1_; have BK450 := n2_; have GW450 := n3_; have GE450 := n4_; have NB387_450 := n5_; have NB450_387 := n6_; clear n0_ n1_ n2_ n3_ n4_ n5_ n6_; clear hb hbox hg; have hnb64 := NB450_387.out; have hnc64 := NB387_450.out; have hcz65_0 : w63.cell? ⟨gb450, 0, none⟩ = some (.int .u64 0) := (blk_cell BK450.out 0).trans rfl; have hcz65_1 : w63.cell? ⟨gb450, 1, none⟩ = some (.int .u64 0) := (blk_cell BK450.out 1).trans rfl; have hcz65_2 : w63.cell? ⟨gb450, 2, none⟩ = some (.int .u8 0) := (blk_cell BK450.out 2).trans rfl; have hcz65_3 : w63.cell? ⟨gb450, 3, none⟩ = some (.int .u8 0) := (blk_cell BK450.out 3).trans rfl; have hcz65_4 : w63.cell? ⟨gb450, 4, none⟩ = some (.int .u8 0) := (blk_cell BK450.out 4).trans rfl; have hcz65_5 : w63.cell? ⟨gb450, 5, none⟩ = some (.int .u8 0) := (blk_cell BK450.out 5).trans rfl; have hcz65_6 : w63.cell? ⟨gb450, 6, none⟩ = some (.int .u8 0) := (blk_cell BK450.out 6).trans rfl; have hcz65_7 : w63.cell? ⟨gb450, 7, none⟩ = some (.int .u8 0) := (blk_cell BK450.out 7).trans rfl; have hcz65_8 : w63.cell? ⟨gb450, 8, none⟩ = some (.int .u8 0) := (blk_cell BK450.out 8).trans rfl; have hcz65_9 : w63.cell? ⟨gb450, 9, none⟩ = some (.int .u8 0) := (blk_cell BK450.out 9).trans rfl; have hcz65_10 : w63.cell? ⟨gb450, 10, none⟩ = some (.int .u8 0) := (blk_cell BK450.out 10).trans rfl; have hcz65_11 : w63.cell? ⟨gb450, 11, none⟩ = some (.int .u8 0) := (blk_cell BK450.out 11).trans rfl; have hcz65_12 : w63.cell? ⟨gb450, 12, none⟩ = some (.string (⟨#[]⟩ : ByteArray)) := (blk_cell BK450.out 12).trans rfl; have hfz65_0 := blk_frozen BK450.out 0; have hfz65_1 := blk_frozen BK450.out 1; have hfz65_2 := blk_frozen BK450.out 2; have hfz65_3 := blk_frozen BK450.out 3; have hfz65_4 := blk_frozen BK450.out 4; have hfz65_5 := blk_frozen BK450.out 5; have hfz65_6 := blk_frozen BK450.out 6; have hfz65_7 := blk_frozen BK450.out 7; have hfz65_8 := blk_frozen BK450.out 8; have hfz65_9 := blk_frozen BK450.out 9; have hfz65_10 := blk_frozen BK450.out 10; have hfz65_11 := blk_frozen BK450.out 11; have hfz65_12 := blk_frozen BK450.out 12) | (go_at_call 10; (with_reducible refine (entry_Right.calls kj19 t436 t437 t438 t439 t440 t441 t442 t443 t444 t445 t446 t447 t448 true _ A57.out).mono ?_); rintro e w66 ⟨rfl, hb⟩; have n0_ := Aside0.mk (blk_below (g := gb387) (o := .cells #[.int .u64 a0_0, .int .u64 a0_1, .int .u8 a0_2, .int .u8 a0_3, .int .u8 a0_4, .int .u8 a0_5, .int .u8 a0_6, .int .u8 a0_7, .int .u8 a0_8, .int .u8 a0_9, .int .u8 a0_10, .int .u8 a0_11, .string a0_12] 27 (0, 0)) (by (with_reducible repeat (first | refine blk_drewN ?_ _ | refine blk_drew ?_ | refine blk_alloc ?_ _)); refine blk_far ?_ NB387_450.out _; (with_reducible repeat (first | refine blk_drewN ?_ _ | refine blk_drew ?_ | refine blk_alloc ?_ _)); refine blk_far ?_ NB387_450.out _; (with_reducible repeat (first | refine blk_drewN ?_ _ | refine blk_drew ?_ | refine blk_alloc ?_ _)); refine blk_far ?_ NB387_450.out _; (with_reducible repeat (first | refine blk_drewN ?_ _ | refine blk_drew ?_ | refine blk_alloc ?_ _)); refine blk_far ?_ NB387_450.out _; (with_reducible repeat (first | refine blk_drewN ?_ _ | refine blk_drew ?_ | refine blk_alloc ?_ _)); refine blk_far ?_ NB387_450.out _; (with_reducible repeat (first | refine blk_drewN ?_ _ | refine blk_drew ?_ | refine blk_alloc ?_ _)); refine blk_far ?_ NB387_450.out _; (with_reducible repeat (first | refine blk_drewN ?_ _ | refine blk_drew ?_ | refine blk_alloc ?_ _)); refine blk_far ?_ NB387_450.out _; (with_reducible repeat (first | refine blk_drewN ?_ _ | refine blk_drew ?_ | refine blk_alloc ?_ _)); refine blk_far ?_ NB387_450.out _; (with_reducible repeat (first | refine blk_drewN ?_ _ | refine blk_drew ?_ | refine blk_alloc ?_ _)); refine blk_far ?_ NB387_450.out _; (with_reducible repeat (first | refine blk_drewN ?_ _ | refine blk_drew ?_ | refine blk_alloc ?_ _)); refine blk_far ?_ NB387_450.out _; (with_reducible repeat (first | refine blk_drewN ?_ _ | refine blk_drew ?_ | refine blk_alloc ?_ _)); refine blk_far ?_ NB387_450.out _; (with_reducible repeat (first | refine blk_drewN ?_ _ | refine blk_drew ?_ | refine blk_alloc ?_ _)); refine blk_far ?_ NB387_450.out _; (with_reducible repeat (first | refine blk_drewN ?_ _ | refine blk_drew ?_ | refine blk_alloc ?_ _)); refine blk_far ?_ NB387_450.out _; (with_reducible repeat (first | refine blk_drewN ?_ _ | refine blk_drew ?_ | refine blk_alloc ?_ _)); exact BK387.out) hb); have n1_ := Aside0.mk (blk_below (g := gb450) (o := .cells #[.int .u64 t436, .int .u64 t437, .int .u8 t438, .int .u8 t439, .int .u8 t440, .int .u8 t441, .int .u8 t442, .int .u8 t443, .int .u8 t444, .int .u8 t445, .int .u8 t446, .int .u8 t447, .string t448] 27 (0, 0)) (by (with_reducible repeat (first | refine blk_drewN ?_ _ | refine blk_drew ?_ | refine blk_alloc ?_ _)); refine blk_put (cs := #[.int .u64 t436, .int .u64 t437, .int .u8 t438, .int .u8 t439, .int .u8 t440, .int .u8 t441, .int .u8 t442, .int .u8 t443, .int .u8 t444, .int .u8 t445, .int .u8 t446, .int .u8 t447, .string (⟨#[]⟩ : ByteArray)]) ?_ 12 _ rfl; (with_reducible repeat (first | refine blk_drewN ?_ _ | refine blk_drew ?_ | refine blk_alloc ?_ _)); refine blk_put (cs := #[.int .u64 t436, .int .u64 t437, .int .u8 t438, .int .u8 t439, .int .u8 t440, .int .u8 t441, .int .u8 t442, .int .u8 t443, .int .u8 t444, .int .u8 t445, .int .u8 t446, .int .u8 0, .string (⟨#[]⟩ : ByteArray)]) ?_ 11 _ rfl; (with_reducible repeat (first | refine blk_drewN ?_ _ | refine blk_drew ?_ | refine blk_alloc ?_ _)); refine blk_put (cs := #[.int .u64 t436, .int .u64 t437, .int .u8 t438, .int .u8 t439, .int .u8 t440, .int .u8 t441, .int .u8 t442, .int .u8 t443, .int .u8 t444, .int .u8 t445, .int .u8 0, .int .u8 0, .string (⟨#[]⟩ : ByteArray)]) ?_ 10 _ rfl; (with_reducible repeat (first | refine blk_drewN ?_ _ | refine blk_drew ?_ | refine blk_alloc ?_ _)); refine blk_put (cs := #[.int .u64 t436, .int .u64 t437, .int .u8 t438, .int .u8 t439, .int .u8 t440, .int .u8 t441, .int .u8 t442, .int .u8 t443, .int .u8 t444, .int .u8 0, .int .u8 0, .int .u8 0, .string (⟨#[]⟩ : ByteArray)]) ?_ 9 _ rfl; (with_reducible repeat (first | refine blk_drewN ?_ _ | refine blk_drew ?_ | refine blk_alloc ?_ _)); refine blk_put (cs := #[.int .u64 t436, .int .u64 t437, .int .u8 t438, .int .u8 t439, .int .u8 t440, .int .u8 t441, .int .u8 t442, .int .u8 t443, .int .u8 0, .int .u8 0, .int .u8 0, .int .u8 0, .string (⟨#[]⟩ : ByteArray)]) ?_ 8 _ rfl; (with_reducible repeat (first | refine blk_drewN ?_ _ | refine blk_drew ?_ | refine blk_alloc ?_ _)); refine blk_put (cs := #[.int .u64 t436, .int .u64 t437, .int .u8 t438, .int .u8 t439, .int .u8 t440, .int .u8 t441, .int .u8 t442, .int .u8 0, .int .u8 0, .int .u8 0, .int .u8 0, .int .u8 0, .string (⟨#[]⟩ : ByteArray)]) ?_ 7 _ rfl; (with_reducible repeat (first | refine blk_drewN ?_ _ | refine blk_drew ?_ | refine blk_alloc ?_ _)); refine blk_put (cs := #[.int .u64 t436, .int .u64 t437, .int .u8 t438, .int .u8 t439, .int .u8 t440, .int .u8 t441, .int .u8 0, .int .u8 0, .int .u8 0, .int .u8 0, .int .u8 0, .int .u8 0, .string (⟨#[]⟩ : ByteArray)]) ?_ 6 _ rfl; (with_reducible repeat (first | refine blk_drewN ?_ _ | refine blk_drew ?_ | refine blk_alloc ?_ _)); refine blk_put (cs := #[.int .u64 t436, .int .u64 t437, .int .u8 t438, .int .u8 t439, .int .u8 t440, .int .u8 0, .int .u8 0, .int .u8 0, .int .u8 0, .int .u8 0, .int .u8 0, .int .u8 0, .string (⟨#[]⟩ : ByteArray)]) ?_ 5 _ rfl; (with_reducible repeat (first | refine blk_drewN ?_ _ | refine blk_drew ?_ | refine blk_alloc ?_ _)); refine blk_put (cs := #[.int .u64 t436, .int .u64 t437, .int .u8 t438, .int .u8 t439, .int .u8 0, .int .u8 0, .int .u8 0, .int .u8 0, .int .u8 0, .int .u8 0, .int .u8 0, .int .u8 0, .string (⟨#[]⟩ : ByteArray)]) ?_ 4 _ rfl; (with_reducible repeat (first | refine blk_drewN ?_ _ | refine blk_drew ?_ | refine blk_alloc ?_ _)); refine blk_put (cs := #[.int .u64 t436, .int .u64 t437, .int .u8 t438, .int .u8 0, .int .u8 0, .int .u8 0, .int .u8 0, .int .u8 0, .int .u8 0, .int .u8 0, .int .u8 0, .int .u8 0, .string (⟨#[]⟩ : ByteArray)]) ?_ 3 _ rfl; (with_reducible repeat (first | refine blk_drewN ?_ _ | refine blk_drew ?_ | refine blk_alloc ?_ _)); refine blk_put (cs := #[.int .u64 t436, .int .u64 t437, .int .u8 0, .int .u8 0, .int .u8 0, .int .u8 0, .int .u8 0, .int .u8 0, .int .u8 0, .int .u8 0, .int .u8 0, .int .u8 0, .string (⟨#[]⟩ : ByteArray)]) ?_ 2 _ rfl; (with_reducible repeat (first | refine blk_drewN ?_ _ | refine blk_drew ?_ | refine blk_alloc ?_ _)); refine blk_put (cs := #[.int .u64 t436, .int .u64 0, .int .u8 0, .int .u8 0, .int .u8 0, .int .u8 0, .int .u8 0, .int .u8 0, .int .u8 0, .int .u8 0, .int .u8 0, .int .u8 0, .string (⟨#[]⟩ : ByteArray)]) ?_ 1 _ rfl; (with_reducible repeat (first | refine blk_drewN ?_ _ | refine blk_drew ?_ | refine blk_alloc ?_ _)); refine blk_put (cs := #[.int .u64 0, .int .u64 0, .int .u8 0, .int .u8 0, .int .u8 0, .int .u8 0, .int .u8 0, .int .u8 0, .int .u8 0, .int .u8 0, .int .u8 0, .int .u8 0, .string (⟨#[]⟩ : ByteArray)]) ?_ 0 _ rfl; (with_reducible repeat (first | refine blk_drewN ?_ _ | refine blk_drew ?_ | refine blk_alloc ?_ _)); exact BK450.out) hb); have n2_ := Aside0.mk (below_step (by repeat (first | (with_reducible first | exact HB.out | apply below_alloc | apply pw_below_drewN | apply below_drew1 | refine below_set ?_ GE387.out | refine below_set ?_ GE450.out) | exact HB.out)) hb); clear BK387; clear BK450; clear HB; have BK387 := n0_; have BK450 := n1_; have HB := n2_; clear n0_ n1_ n2_; (try clear hb); (try clear hb2); (try clear hk); (try clear hi); have hcz67_0 : w66.cell? ⟨gb450, 0, none⟩ = some (.int .u64 t436) := (blk_cell BK450.out 0).trans rfl; have hcz67_1 : w66.cell? ⟨gb450, 1, none⟩ = some (.int .u64 t437) := (blk_cell BK450.out 1).trans rfl; have hcz67_2 : w66.cell? ⟨gb450, 2, none⟩ = some (.int .u8 t438) := (blk_cell BK450.out 2).trans rfl; have hcz67_3 : w66.cell? ⟨gb450, 3, none⟩ = some (.int .u8 t439) := (blk_cell BK450.out 3).trans rfl; have hcz67_4 : w66.cell? ⟨gb450, 4, none⟩ = some (.int .u8 t440) := (blk_cell BK450.out 4).trans rfl; have hcz67_5 : w66.cell? ⟨gb450, 5, none⟩ = some (.int .u8 t441) := (blk_cell BK450.out 5).trans rfl; have hcz67_6 : w66.cell? ⟨gb450, 6, none⟩ = some (.int .u8 t442) := (blk_cell BK450.out 6).trans rfl; have hcz67_7 : w66.cell? ⟨gb450, 7, none⟩ = some (.int .u8 t443) := (blk_cell BK450.out 7).trans rfl; have hcz67_8 : w66.cell? ⟨gb450, 8, none⟩ = some (.int .u8 t444) := (blk_cell BK450.out 8).trans rfl; have hcz67_9 : w66.cell? ⟨gb450, 9, none⟩ = some (.int .u8 t445) := (blk_cell BK450.out 9).trans rfl; have hcz67_10 : w66.cell? ⟨gb450, 10, none⟩ = some (.int .u8 t446) := (blk_cell BK450.out 10).trans rfl; have hcz67_11 : w66.cell? ⟨gb450, 11, none⟩ = some (.int .u8 t447) := (blk_cell BK450.out 11).trans rfl; have hcz67_12 : w66.cell? ⟨gb450, 12, none⟩ = some (.string t448) := (blk_cell BK450.out 12).trans rfl; have hfz67_0 := blk_frozen BK450.out 0; have hfz67_1 := blk_frozen BK450.out 1; have hfz67_2 := blk_frozen BK450.out 2; have hfz67_3 := blk_frozen BK450.out 3; have hfz67_4 := blk_frozen BK450.out 4; have hfz67_5 := blk_frozen BK450.out 5; have hfz67_6 := blk_frozen BK450.out 6; have hfz67_7 := blk_frozen BK450.out 7; have hfz67_8 := blk_frozen BK450.out 8; have hfz67_9 := blk_frozen BK450.out 9; have hfz67_10 := blk_frozen BK450.out 10; have hfz67_11 := blk_frozen BK450.out 11; have hfz67_12 := blk_frozen BK450.out 12) | (go_at_call 9; (with_reducible refine (entry_Write.calls kj19 t436 t437 t438 t439 t440 t441 t442 t443 t444 t445 t446 t447 t448 t452 _ A59.out).mono ?_); rintro e w68 ⟨rfl, hb⟩; have n0_ := Aside0.mk (blk_below (g := gb387) (o := .cells #[.int .u64 a0_0, .int .u64 a0_1, .int .u8 a0_2, .int .u8 a0_3, .int .u8 a0_4, .int .u8 a0_5, .int .u8 a0_6, .int .u8 a0_7, .int .u8 a0_8, .int .u8 a0_9, .int .u8 a0_10, .int .u8 a0_11, .string a0_12] 27 (0, 0)) (by (with_reducible repeat (first | refine blk_drewN ?_ _ | refine blk_drew ?_ | refine blk_alloc ?_ _)); exact BK387.out) hb); have n1_ := Aside0.mk (blk_below (g := gb450) (o := .cells #[.int .u64 t436, .int .u64 t437, .int .u8 t438, .int .u8 t439, .int .u8 t440, .int .u8 t441, .int .u8 t442, .int .u8 t443, .int .u8 t444, .int .u8 t445, .int .u8 t446, .int .u8 t447, .string t448] 27 (0, 0)) (by (with_reducible repeat (first | refine blk_drewN ?_ _ | refine blk_drew ?_ | refine blk_alloc ?_ _)); exact BK450.out) hb); have n2_ := Aside0.mk (below_step (by repeat (first | (with_reducible first | exact HB.out | apply below_alloc | apply pw_below_drewN | apply below_drew1 | refine below_set ?_ GE387.out | refine below_set ?_ GE450.out) | exact HB.out)) hb); clear BK387; clear BK450; clear HB; have BK387 := n0_; have BK450 := n1_; have HB := n2_; clear n0_ n1_ n2_; (try clear hb); (try clear hb2); (try clear hk); (try clear hi)) | (go_at_call 14; (with_reducible refine (wapentakelaw04_awake.calls kj19  t453 _ A61.out).mono ?_); rintro e w69 ⟨rfl, hb⟩; have n0_ := Aside0.mk (blk_below (g := gb387) (o := .cells #[.int .u64 a0_0, .int .u64 a0_1, .int .u8 a0_2, .int .u8 a0_3, .int .u8 a0_4, .int .u8 a0_5, .int .u8 a0_6, .int .u8 a0_7, .int .u8 a0_8, .int .u8 a0_9, .int .u8 a0_10, .int .u8 a0_11, .string a0_12] 27 (0, 0)) (by (with_reducible repeat (first | refine blk_drewN ?_ _ | refine blk_drew ?_ | refine blk_alloc ?_ _)); exact BK387.out) hb); have n1_ := Aside0.mk (blk_below (g := gb450) (o := .cells #[.int .u64 t436, .int .u64 t437, .int .u8 t438, .int .u8 t439, .int .u8 t440, .int .u8 t441, .int .u8 t442, .int .u8 t443, .int .u8 t444, .int .u8 t445, .int .u8 t446, .int .u8 t447, .string t448] 27 (0, 0)) (by (with_reducible repeat (first | refine blk_drewN ?_ _ | refine blk_drew ?_ | refine blk_alloc ?_ _)); exact BK450.out) hb); have n2_ := Aside0.mk (below_step (by repeat (first | (with_reducible first | exact HB.out | apply below_alloc | apply pw_below_drewN | apply below_drew1 | refine below_set ?_ GE387.out | refine below_set ?_ GE450.out) | exact HB.out)) hb); clear BK387; clear BK450; clear HB; have BK387 := n0_; have BK450 := n1_; have HB := n2_; clear n0_ n1_ n2_; (try clear hb); (try clear hb2); (try clear hk); (try clear hi)))
            go_ret
            exact ⟨by first | rfl | (simp [errW_none, errW_some] <;> rfl) | (simp [*, errW_none, errW_some] <;> rfl), by repeat (first | (with_reducible first | exact HB.out | apply below_alloc | apply pw_below_drewN | apply below_drew1 | refine below_set ?_ GE387.out | refine below_set ?_ GE450.out) | exact HB.out)⟩
           ·rw [if_neg c60] at H
            have c60b0 : (t452.toList == x1_12.toList) = false := beq_eq_false_iff_ne.mpr c60
            have c60b1 : (t452.toList != x1_12.toList) = true := bne_iff_ne.mpr c60
            exact absurd (Option.some.inj H) (by rw [hr_]; decide)
          ·replace c58 := Bool.eq_false_iff.mpr c58
           subst c58
           have H1 : (some false) = some r := by rw [if_neg (show ¬ (false = true) by decide)] at H; exact H
           clear H
           have H := H1
           clear H1
           exact absurd (Option.some.inj H) (by rw [hr_]; decide)
         ·replace c56 := Bool.eq_false_iff.mpr c56
          subst c56
          have H1 : (if (t436 == 0 && (t437 == 0 && (t438 == 0 && (t439 == 0 && ((t440 == 0 && (t441 == 0 && (t442 == 0 && (t443 == 0 && (t444 == 0 && (t445 == 0 && (t446 == 0 && (t447 == 0)))))))) && (t448.toList.isEmpty)))))) = true then ((wapentakelaw04_awake.f kj19).bind fun t454 => (some t454)) else (some false)) = some r := by rw [if_neg (show ¬ (false = true) by decide)] at H; exact H
          clear H
          have H := H1
          clear H1
          by_cases c70 : (t436 == 0 && (t437 == 0 && (t438 == 0 && (t439 == 0 && ((t440 == 0 && (t441 == 0 && (t442 == 0 && (t443 == 0 && (t444 == 0 && (t445 == 0 && (t446 == 0 && (t447 == 0)))))))) && (t448.toList.isEmpty)))))) = true
          ·rw [if_pos c70] at H
           have c70b0 : (t436 == 0 && (t437 == 0 && (t438 == 0 && (t439 == 0 && ((t440 == 0 && (t441 == 0 && (t442 == 0 && (t443 == 0 && (t444 == 0 && (t445 == 0 && (t446 == 0 && (t447 == 0)))))))) && (t448.toList.isEmpty)))))) = true := c70
           (try (have c70b1 : decide (t436 = 0 && (t437 == 0 && (t438 == 0 && (t439 == 0 && ((t440 == 0 && (t441 == 0 && (t442 == 0 && (t443 == 0 && (t444 == 0 && (t445 == 0 && (t446 == 0 && (t447 == 0)))))))) && (t448.toList.isEmpty)))))) = true := by simpa using c70))
           (try (have c70b2 : (t436 == 0 && (t437 == 0 && (t438 == 0 && (t439 == 0 && ((t440 == 0 && (t441 == 0 && (t442 == 0 && (t443 == 0 && (t444 == 0 && (t445 == 0 && (t446 == 0 && (t447 == 0)))))))) && (t448.toList.isEmpty)))))) = true := by simpa using c70))
           clear c70
           replace H := Option.bind_eq_some_iff.mp H
           obtain ⟨t454, A710, H⟩ := H
           replace H : (some t454) = some r := H
           have A71 := Aside0.mk A710
           clear A710
           clear hr_
           obtain rfl := Option.some.inj H
           go_wp2_with (first | ((with_reducible refine gate_callee (f := 11) rfl ?_); refine goesL_ (some 83) rfl rfl Try.func11 (by kernel_rfl) rfl #[.string x1_12] rfl (by (try simp only [List.map_toArray, List.map_cons, List.map_nil]); first | done | rfl | (simp only [List.length_drop, List.length_take]; rfl)) ?_; (with_reducible refine (entry_Read.calls kj19 x1_12 t436 t437 t438 t439 t440 t441 t442 t443 t444 t445 t446 t447 t448 false _ A55.out).mono ?_); rintro e w72 ⟨rfl, hb⟩; refine ⟨_, rfl, ?_⟩; have n0_ := Aside0.mk (blk_below (g := gb387) (o := .cells #[.int .u64 a0_0, .int .u64 a0_1, .int .u8 a0_2, .int .u8 a0_3, .int .u8 a0_4, .int .u8 a0_5, .int .u8 a0_6, .int .u8 a0_7, .int .u8 a0_8, .int .u8 a0_9, .int .u8 a0_10, .int .u8 a0_11, .string a0_12] 27 (0, 0)) (by (with_reducible repeat (first | refine blk_drewN ?_ _ | refine blk_drew ?_ | refine blk_alloc ?_ _)); exact BK387.out) hb); have n1_ := Aside0.mk (below_step (by repeat (first | (with_reducible first | exact HB.out | apply below_alloc | apply pw_below_drewN | apply below_drew1 | refine below_set ?_ GE387.out) | exact HB.out)) hb); clear BK387; clear HB; have BK387 := n0_; have HB := n1_; clear n0_ n1_; (try clear hb); (try clear hb2); (try clear hk); (try clear hi)) | ((with_reducible refine gate_dst (N := 16) rfl ?_); (try (refine gate_guard (by rfl) ?_; dsimp only)); refine box_event ?hg (N := 16) ?hd (cs := #[.int .u64 0, .int .u64 0, .int .u8 0, .int .u8 0, .int .u8 0, .int .u8 0, .int .u8 0, .int .u8 0, .int .u8 0, .int .u8 0, .int .u8 0, .int .u8 0, .string (⟨#[]⟩ : ByteArray)]) (t := 27) ?hr ?_; (case hd => rfl); (case hg => rfl); (case hr => first | (go_simp; done) | (go_simp; rfl)); intro gb450 hg w73 hbox hb; have n0_ := Aside0.mk (blk_below (g := gb387) (o := .cells #[.int .u64 a0_0, .int .u64 a0_1, .int .u8 a0_2, .int .u8 a0_3, .int .u8 a0_4, .int .u8 a0_5, .int .u8 a0_6, .int .u8 a0_7, .int .u8 a0_8, .int .u8 a0_9, .int .u8 a0_10, .int .u8 a0_11, .string a0_12] 27 (0, 0)) (by (with_reducible repeat (first | refine blk_drewN ?_ _ | refine blk_drew ?_ | refine blk_alloc ?_ _)); exact BK387.out) hb); have n1_ := Aside0.mk (below_step (by repeat (first | (with_reducible first | exact HB.out | apply below_alloc | apply pw_below_drewN | apply below_drew1 | refine below_set ?_ GE387.out) | exact HB.out)) hb); have n2_ := Aside0.mk (hbox); have n3_ := Aside0.mk ((by rw [hg]; exact (below_size (by repeat (first | (with_reducible first | exact HB.out | apply below_alloc | apply pw_below_drewN | apply below_drew1 | refine below_set ?_ GE387.out) | exact HB.out))) : w.heap.size ≤ gb450)); have n4_ := Aside0.mk ((by rw [hg]; exact (below_size (by repeat (first | (with_reducible first | exact HB.out | apply below_alloc | apply pw_below_drewN | apply below_drew1 | refine below_set ?_ GE387.out) | exact HB.out))) : w.heap.size ≤ gb450)); have n5_ := Aside0.mk ((by rw [hg]; exact Nat.ne_of_lt (blk_lt (g := gb387) (o := .cells #[.int .u64 a0_0, .int .u64 a0_1, .int .u8 a0_2, .int .u8 a0_3, .int .u8 a0_4, .int .u8 a0_5, .int .u8 a0_6, .int .u8 a0_7, .int .u8 a0_8, .int .u8 a0_9, .int .u8 a0_10, .int .u8 a0_11, .string a0_12] 27 (0, 0)) (by (with_reducible repeat (first | refine blk_drewN ?_ _ | refine blk_drew ?_ | refine blk_alloc ?_ _)); exact BK387.out)) : gb387 ≠ gb450)); have n6_ := Aside0.mk ((by rw [hg]; exact Nat.ne_of_gt (blk_lt (g := gb387) (o := .cells #[.int .u64 a0_0, .int .u64 a0_1, .int .u8 a0_2, .int .u8 a0_3, .int .u8 a0_4, .int .u8 a0_5, .int .u8 a0_6, .int .u8 a0_7, .int .u8 a0_8, .int .u8 a0_9, .int .u8 a0_10, .int .u8 a0_11, .string a0_12] 27 (0, 0)) (by (with_reducible repeat (first | refine blk_drewN ?_ _ | refine blk_drew ?_ | refine blk_alloc ?_ _)); exact BK387.out)) : gb450 ≠ gb387)); clear BK387; clear HB; have BK387 := n0_; have HB := n1_; have BK450 := n2_; have GW450 := n3_; have GE450 := n4_; have NB387_450 := n5_; have NB450_387 := n6_; clear n0_ n1_ n2_ n3_ n4_ n5_ n6_; clear hb hbox hg; have hnb74 := NB450_387.out; have hnc74 := NB387_450.out; have hcz75_0 : w73.cell? ⟨gb450, 0, none⟩ = some (.int .u64 0) := (blk_cell BK450.out 0).trans rfl; have hcz75_1 : w73.cell? ⟨gb450, 1, none⟩ = some (.int .u64 0) := (blk_cell BK450.out 1).trans rfl; have hcz75_2 : w73.cell? ⟨gb450, 2, none⟩ = some (.int .u8 0) := (blk_cell BK450.out 2).trans rfl; have hcz75_3 : w73.cell? ⟨gb450, 3, none⟩ = some (.int .u8 0) := (blk_cell BK450.out 3).trans rfl; have hcz75_4 : w73.cell? ⟨gb450, 4, none⟩ = some (.int .u8 0) := (blk_cell BK450.out 4).trans rfl; have hcz75_5 : w73.cell? ⟨gb450, 5, none⟩ = some (.int .u8 0) := (blk_cell BK450.out 5).trans rfl; have hcz75_6 : w73.cell? ⟨gb450, 6, none⟩ = some (.int .u8 0) := (blk_cell BK450.out 6).trans rfl; have hcz75_7 : w73.cell? ⟨gb450, 7, none⟩ = some (.int .u8 0) := (blk_cell BK450.out 7).trans rfl; have hcz75_8 : w73.cell? ⟨gb450, 8, none⟩ = some (.int .u8 0) := (blk_cell BK450.out 8).trans rfl; have hcz75_9 : w73.cell? ⟨gb450, 9, none⟩ = some (.int .u8 0) := (blk_cell BK450.out 9).trans rfl; have hcz75_10 : w73.cell? ⟨gb450, 10, none⟩ = some (.int .u8 0) := (blk_cell BK450.out 10).trans rfl; have hcz75_11 : w73.cell? ⟨gb450, 11, none⟩ = some (.int .u8 0) := (blk_cell BK450.out 11).trans rfl; have hcz75_12 : w73.cell? ⟨gb450, 12, none⟩ = some (.string (⟨#[]⟩ : ByteArray)) := (blk_cell BK450.out 12).trans rfl; have hfz75_0 := blk_frozen BK450.out 0; have hfz75_1 := blk_frozen BK450.out 1; have hfz75_2 := blk_frozen BK450.out 2; have hfz75_3 := blk_frozen BK450.out 3; have hfz75_4 := blk_frozen BK450.out 4; have hfz75_5 := blk_frozen BK450.out 5; have hfz75_6 := blk_frozen BK450.out 6; have hfz75_7 := blk_frozen BK450.out 7; have hfz75_8 := blk_frozen BK450.out 8; have hfz75_9 := blk_frozen BK450.out 9; have hfz75_10 := blk_frozen BK450.out 10; have hfz75_11 := blk_frozen BK450.out 11; have hfz75_12 := blk_frozen BK450.out 12) | (go_at_call 14; (with_reducible refine (wapentakelaw04_awake.calls kj19  t454 _ A71.out).mono ?_); rintro e w76 ⟨rfl, hb⟩; have n0_ := Aside0.mk (blk_below (g := gb387) (o := .cells #[.int .u64 a0_0, .int .u64 a0_1, .int .u8 a0_2, .int .u8 a0_3, .int .u8 a0_4, .int .u8 a0_5, .int .u8 a0_6, .int .u8 a0_7, .int .u8 a0_8, .int .u8 a0_9, .int .u8 a0_10, .int .u8 a0_11, .string a0_12] 27 (0, 0)) (by (with_reducible repeat (first | refine blk_drewN ?_ _ | refine blk_drew ?_ | refine blk_alloc ?_ _)); refine blk_far ?_ NB387_450.out _; (with_reducible repeat (first | refine blk_drewN ?_ _ | refine blk_drew ?_ | refine blk_alloc ?_ _)); refine blk_far ?_ NB387_450.out _; (with_reducible repeat (first | refine blk_drewN ?_ _ | refine blk_drew ?_ | refine blk_alloc ?_ _)); refine blk_far ?_ NB387_450.out _; (with_reducible repeat (first | refine blk_drewN ?_ _ | refine blk_drew ?_ | refine blk_alloc ?_ _)); refine blk_far ?_ NB387_450.out _; (with_reducible repeat (first | refine blk_drewN ?_ _ | refine blk_drew ?_ | refine blk_alloc ?_ _)); refine blk_far ?_ NB387_450.out _; (with_reducible repeat (first | refine blk_drewN ?_ _ | refine blk_drew ?_ | refine blk_alloc ?_ _)); refine blk_far ?_ NB387_450.out _; (with_reducible repeat (first | refine blk_drewN ?_ _ | refine blk_drew ?_ | refine blk_alloc ?_ _)); refine blk_far ?_ NB387_450.out _; (with_reducible repeat (first | refine blk_drewN ?_ _ | refine blk_drew ?_ | refine blk_alloc ?_ _)); refine blk_far ?_ NB387_450.out _; (with_reducible repeat (first | refine blk_drewN ?_ _ | refine blk_drew ?_ | refine blk_alloc ?_ _)); refine blk_far ?_ NB387_450.out _; (with_reducible repeat (first | refine blk_drewN ?_ _ | refine blk_drew ?_ | refine blk_alloc ?_ _)); refine blk_far ?_ NB387_450.out _; (with_reducible repeat (first | refine blk_drewN ?_ _ | refine blk_drew ?_ | refine blk_alloc ?_ _)); refine blk_far ?_ NB387_450.out _; (with_reducible repeat (first | refine blk_drewN ?_ _ | refine blk_drew ?_ | refine blk_alloc ?_ _)); refine blk_far ?_ NB387_450.out _; (with_reducible repeat (first | refine blk_drewN ?_ _ | refine blk_drew ?_ | refine blk_alloc ?_ _)); refine blk_far ?_ NB387_450.out _; (with_reducible repeat (first | refine blk_drewN ?_ _ | refine blk_drew ?_ | refine blk_alloc ?_ _)); exact BK387.out) hb); have n1_ := Aside0.mk (blk_below (g := gb450) (o := .cells #[.int .u64 t436, .int .u64 t437, .int .u8 t438, .int .u8 t439, .int .u8 t440, .int .u8 t441, .int .u8 t442, .int .u8 t443, .int .u8 t444, .int .u8 t445, .int .u8 t446, .int .u8 t447, .string t448] 27 (0, 0)) (by (with_reducible repeat (first | refine blk_drewN ?_ _ | refine blk_drew ?_ | refine blk_alloc ?_ _)); refine blk_put (cs := #[.int .u64 t436, .int .u64 t437, .int .u8 t438, .int .u8 t439, .int .u8 t440, .int .u8 t441, .int .u8 t442, .int .u8 t443, .int .u8 t444, .int .u8 t445, .int .u8 t446, .int .u8 t447, .string (⟨#[]⟩ : ByteArray)]) ?_ 12 _ rfl; (with_reducible repeat (first | refine blk_drewN ?_ _ | refine blk_drew ?_ | refine blk_alloc ?_ _)); refine blk_put (cs := #[.int .u64 t436, .int .u64 t437, .int .u8 t438, .int .u8 t439, .int .u8 t440, .int .u8 t441, .int .u8 t442, .int .u8 t443, .int .u8 t444, .int .u8 t445, .int .u8 t446, .int .u8 0, .string (⟨#[]⟩ : ByteArray)]) ?_ 11 _ rfl; (with_reducible repeat (first | refine blk_drewN ?_ _ | refine blk_drew ?_ | refine blk_alloc ?_ _)); refine blk_put (cs := #[.int .u64 t436, .int .u64 t437, .int .u8 t438, .int .u8 t439, .int .u8 t440, .int .u8 t441, .int .u8 t442, .int .u8 t443, .int .u8 t444, .int .u8 t445, .int .u8 0, .int .u8 0, .string (⟨#[]⟩ : ByteArray)]) ?_ 10 _ rfl; (with_reducible repeat (first | refine blk_drewN ?_ _ | refine blk_drew ?_ | refine blk_alloc ?_ _)); refine blk_put (cs := #[.int .u64 t436, .int .u64 t437, .int .u8 t438, .int .u8 t439, .int .u8 t440, .int .u8 t441, .int .u8 t442, .int .u8 t443, .int .u8 t444, .int .u8 0, .int .u8 0, .int .u8 0, .string (⟨#[]⟩ : ByteArray)]) ?_ 9 _ rfl; (with_reducible repeat (first | refine blk_drewN ?_ _ | refine blk_drew ?_ | refine blk_alloc ?_ _)); refine blk_put (cs := #[.int .u64 t436, .int .u64 t437, .int .u8 t438, .int .u8 t439, .int .u8 t440, .int .u8 t441, .int .u8 t442, .int .u8 t443, .int .u8 0, .int .u8 0, .int .u8 0, .int .u8 0, .string (⟨#[]⟩ : ByteArray)]) ?_ 8 _ rfl; (with_reducible repeat (first | refine blk_drewN ?_ _ | refine blk_drew ?_ | refine blk_alloc ?_ _)); refine blk_put (cs := #[.int .u64 t436, .int .u64 t437, .int .u8 t438, .int .u8 t439, .int .u8 t440, .int .u8 t441, .int .u8 t442, .int .u8 0, .int .u8 0, .int .u8 0, .int .u8 0, .int .u8 0, .string (⟨#[]⟩ : ByteArray)]) ?_ 7 _ rfl; (with_reducible repeat (first | refine blk_drewN ?_ _ | refine blk_drew ?_ | refine blk_alloc ?_ _)); refine blk_put (cs := #[.int .u64 t436, .int .u64 t437, .int .u8 t438, .int .u8 t439, .int .u8 t440, .int .u8 t441, .int .u8 0, .int .u8 0, .int .u8 0, .int .u8 0, .int .u8 0, .int .u8 0, .string (⟨#[]⟩ : ByteArray)]) ?_ 6 _ rfl; (with_reducible repeat (first | refine blk_drewN ?_ _ | refine blk_drew ?_ | refine blk_alloc ?_ _)); refine blk_put (cs := #[.int .u64 t436, .int .u64 t437, .int .u8 t438, .int .u8 t439, .int .u8 t440, .int .u8 0, .int .u8 0, .int .u8 0, .int .u8 0, .int .u8 0, .int .u8 0, .int .u8 0, .string (⟨#[]⟩ : ByteArray)]) ?_ 5 _ rfl; (with_reducible repeat (first | refine blk_drewN ?_ _ | refine blk_drew ?_ | refine blk_alloc ?_ _)); refine blk_put (cs := #[.int .u64 t436, .int .u64 t437, .int .u8 t438, .int .u8 t439, .int .u8 0, .int .u8 0, .int .u8 0, .int .u8 0, .int .u8 0, .int .u8 0, .int .u8 0, .int .u8 0, .string (⟨#[]⟩ : ByteArray)]) ?_ 4 _ rfl; (with_reducible repeat (first | refine blk_drewN ?_ _ | refine blk_drew ?_ | refine blk_alloc ?_ _)); refine blk_put (cs := #[.int .u64 t436, .int .u64 t437, .int .u8 t438, .int .u8 0, .int .u8 0, .int .u8 0, .int .u8 0, .int .u8 0, .int .u8 0, .int .u8 0, .int .u8 0, .int .u8 0, .string (⟨#[]⟩ : ByteArray)]) ?_ 3 _ rfl; (with_reducible repeat (first | refine blk_drewN ?_ _ | refine blk_drew ?_ | refine blk_alloc ?_ _)); refine blk_put (cs := #[.int .u64 t436, .int .u64 t437, .int .u8 0, .int .u8 0, .int .u8 0, .int .u8 0, .int .u8 0, .int .u8 0, .int .u8 0, .int .u8 0, .int .u8 0, .int .u8 0, .string (⟨#[]⟩ : ByteArray)]) ?_ 2 _ rfl; (with_reducible repeat (first | refine blk_drewN ?_ _ | refine blk_drew ?_ | refine blk_alloc ?_ _)); refine blk_put (cs := #[.int .u64 t436, .int .u64 0, .int .u8 0, .int .u8 0, .int .u8 0, .int .u8 0, .int .u8 0, .int .u8 0, .int .u8 0, .int .u8 0, .int .u8 0, .int .u8 0, .string (⟨#[]⟩ : ByteArray)]) ?_ 1 _ rfl; (with_reducible repeat (first | refine blk_drewN ?_ _ | refine blk_drew ?_ | refine blk_alloc ?_ _)); refine blk_put (cs := #[.int .u64 0, .int .u64 0, .int .u8 0, .int .u8 0, .int .u8 0, .int .u8 0, .int .u8 0, .int .u8 0, .int .u8 0, .int .u8 0, .int .u8 0, .int .u8 0, .string (⟨#[]⟩ : ByteArray)]) ?_ 0 _ rfl; (with_reducible repeat (first | refine blk_drewN ?_ _ | refine blk_drew ?_ | refine blk_alloc ?_ _)); exact BK450.out) hb); have n2_ := Aside0.mk (below_step (by repeat (first | (with_reducible first | exact HB.out | apply below_alloc | apply pw_below_drewN | apply below_drew1 | refine below_set ?_ GE387.out | refine below_set ?_ GE450.out) | exact HB.out)) hb); clear BK387; clear BK450; clear HB; have BK387 := n0_; have BK450 := n1_; have HB := n2_; clear n0_ n1_ n2_; (try clear hb); (try clear hb2); (try clear hk); (try clear hi)))
           go_ret
           exact ⟨by first | rfl | (simp [errW_none, errW_some] <;> rfl) | (simp [*, errW_none, errW_some] <;> rfl), by repeat (first | (with_reducible first | exact HB.out | apply below_alloc | apply pw_below_drewN | apply below_drew1 | refine below_set ?_ GE387.out | refine below_set ?_ GE450.out) | exact HB.out)⟩
          ·rw [if_neg c70] at H
           have c70b0 : (t436 == 0 && (t437 == 0 && (t438 == 0 && (t439 == 0 && ((t440 == 0 && (t441 == 0 && (t442 == 0 && (t443 == 0 && (t444 == 0 && (t445 == 0 && (t446 == 0 && (t447 == 0)))))))) && (t448.toList.isEmpty)))))) = false := by simpa using c70
           (try (have c70b1 : decide (t436 = 0 && (t437 == 0 && (t438 == 0 && (t439 == 0 && ((t440 == 0 && (t441 == 0 && (t442 == 0 && (t443 == 0 && (t444 == 0 && (t445 == 0 && (t446 == 0 && (t447 == 0)))))))) && (t448.toList.isEmpty)))))) = false := by simpa using c70))
           (try (have c70b2 : (t436 == 0 && (t437 == 0 && (t438 == 0 && (t439 == 0 && ((t440 == 0 && (t441 == 0 && (t442 == 0 && (t443 == 0 && (t444 == 0 && (t445 == 0 && (t446 == 0 && (t447 == 0)))))))) && (t448.toList.isEmpty)))))) = false := by simpa using c70))
           (try (have c70b3 : ¬ (t436 = 0 && (t437 == 0 && (t438 == 0 && (t439 == 0 && ((t440 == 0 && (t441 == 0 && (t442 == 0 && (t443 == 0 && (t444 == 0 && (t445 == 0 && (t446 == 0 && (t447 == 0)))))))) && (t448.toList.isEmpty)))))) := by simpa using c70))
           clear c70
           exact absurd (Option.some.inj H) (by rw [hr_]; decide)

def wapentakelaw04_EntryBack.Pure : Prop := ∀ (a0 : S27) (a1 : ByteArray) (a2 : Int) (a3 : ByteArray), ((Lit.int .u64 a0.f0).wf = true ∧ (Lit.int .u64 a0.f1).wf = true ∧ (Lit.int .u8 a0.f2).wf = true ∧ (Lit.int .u8 a0.f3).wf = true ∧ ((Lit.int .u8 a0.f4.f0).wf = true ∧ (Lit.int .u8 a0.f4.f1).wf = true ∧ (Lit.int .u8 a0.f4.f2).wf = true ∧ (Lit.int .u8 a0.f4.f3).wf = true ∧ (Lit.int .u8 a0.f4.f4).wf = true ∧ (Lit.int .u8 a0.f4.f5).wf = true ∧ (Lit.int .u8 a0.f4.f6).wf = true ∧ (Lit.int .u8 a0.f4.f7).wf = true) ∧ a0.f5.size ≤ 9223372036854775807) → a1.size ≤ 9223372036854775807 → (Lit.int .u16 a2).wf = true → a3.size ≤ 9223372036854775807 → ∃ k, wapentakelaw04_EntryBack.f k a0.f0 a0.f1 a0.f2 a0.f3 a0.f4.f0 a0.f4.f1 a0.f4.f2 a0.f4.f3 a0.f4.f4 a0.f4.f5 a0.f4.f6 a0.f4.f7 a0.f5 a1 a2 a3 = some true

end Go.Proofs.Ytimfgflcflhfcaa.P
