-- Written by wip/tools/myprint.sh out of the translation, over the kit's print with a patch. Not trusted: Lean checks it.
import Derived.Test.YtfpeacjodgdndaaPx0
import Derived.Test.YtfpeacjodgdndaaPx2
import Derived.Test.YtfpeacjodgdndaaPx3
import Derived.Test.YtfpeacjodgdndaaPx4
import Derived.Test.YtfpeacjodgdndaaPx5
namespace Go.Proofs.Ytfpeacjodgdndaa.P
open Go.RowKit Go.Proofs.YtfpeacjodgdndaaW.PrintWords Go.Proofs.YtfpeacjodgdndaaW.PrintLast Go.Proofs.YtfpeacjodgdndaaW.PrintMore Go.Proofs.Ytfpeacjodgdndaa.Num
attribute [local go_sem] max2_int min2_int max_two min_two max_three min_three max_four min_four   -- for this text's walks alone
set_option linter.unusedVariables false
set_option linter.unusedSimpArgs false

attribute [local go_sem high] eqA27
def bq_ (n m : Nat) : Array Bool := ((List.range n).map fun i => m.testBit i).toArray
theorem zA {α : Type} (l : List α) (i : Nat) (a : α) : l.toArray.setIfInBounds i a = (l.set i a).toArray := List.setIfInBounds_toArray ..
theorem zB {α : Type} (a b : α) (l : List α) : (a :: l).set 0 b = b :: l := List.set_cons_zero ..
theorem zC {α : Type} (a b : α) (l : List α) (n : Nat) : (a :: l).set (n + 1) b = a :: l.set n b := List.set_cons_succ ..
/-! ### wapentakelaw17_BucketPlays: function 3 -/
mutual
def wapentakelaw17_BucketPlays.j0 : Nat → List Bool → Bool → Int → Int → Int → Int → Int → Int → Int → Int → Int → Int → Int → Int → Option (Bool)
 | 0, _, _, _, _, _, _, _, _, _, _, _, _, _, _ => none
 | k + 1, x3, x39, x140000, x140001, x140002, x145000, x145001, x145002, x149000, x149001, x149002, x153000, x153001, x153002 => if x39 = true then (some false) else (wapentakelaw17_BucketPlays.l0 k x3 0 x140000 x140001 x140002 x145000 x145001 x145002 x149000 x149001 x149002 x153000 x153001 x153002)
def wapentakelaw17_BucketPlays.l0 : Nat → List Bool → Int → Int → Int → Int → Int → Int → Int → Int → Int → Int → Int → Int → Int → Option (Bool)
 | 0, _, _, _, _, _, _, _, _, _, _, _, _, _, _ => none
 | k + 1, x3, x12, x140000, x140001, x140002, x145000, x145001, x145002, x149000, x149001, x149002, x153000, x153001, x153002 => if x12 < (x3.length : Int) then (if 0 ≤ x12 then (if rdOf false x3 x12 = true then ((bucket_Bucket_Tick.f x140000 x140001 x140002).bind fun bt159 => ((bucket_Bucket_Tick.f x145000 x145001 x145002).bind fun bt162 => ((wapentakeref17_Tick.f x149000 x149001 x149002).bind fun bt165 => ((wapentakeref17_Tick.f x153000 x153001 x153002).bind fun bt168 => (wapentakelaw17_BucketPlays.j2 k x3 x12 false false false false bt159.1 bt159.2.1 bt159.2.2 bt162.1 bt162.2.1 bt162.2.2 bt165.1 bt165.2.1 bt165.2.2 bt168.1 bt168.2.1 bt168.2.2))))) else ((bucket_Bucket_Take.f x140000 x140001 x140002).bind fun bt171 => ((bucket_Bucket_Take.f x145000 x145001 x145002).bind fun bt175 => ((wapentakeref17_Take.f x149000 x149001 x149002).bind fun bt179 => ((wapentakeref17_Take.f x153000 x153001 x153002).bind fun bt183 => (wapentakelaw17_BucketPlays.j2 k x3 x12 bt171.1 bt175.1 bt179.2.2.2 bt183.2.2.2 bt171.2.1 bt171.2.2.1 bt171.2.2.2 bt175.2.1 bt175.2.2.1 bt175.2.2.2 bt179.1 bt179.2.1 bt179.2.2.1 bt183.1 bt183.2.1 bt183.2.2.1)))))) else (none)) else ((bucket_Bucket_Write.f x140000 x140001 x140002).bind fun t193 => ((wapentakeref17_Write.f k x149000 x149001 x149002).bind fun t194 => (if t193.toList = t194.toList then ((bucket_Bucket_Write.f x145000 x145001 x145002).bind fun t195 => ((wapentakeref17_Write.f k x153000 x153001 x153002).bind fun t196 => (if t195.toList = t196.toList then ((wapentakelaw17_awake.f).bind fun t197 => (some t197)) else (some false)))) else (some false))))
def wapentakelaw17_BucketPlays.j2 : Nat → List Bool → Int → Bool → Bool → Bool → Bool → Int → Int → Int → Int → Int → Int → Int → Int → Int → Int → Int → Int → Option (Bool)
 | 0, _, _, _, _, _, _, _, _, _, _, _, _, _, _, _, _, _, _ => none
 | k + 1, x3, x12, x13, x14, x15, x16, x140000, x140001, x140002, x145000, x145001, x145002, x149000, x149001, x149002, x153000, x153001, x153002 => if (x13 != x15) = true then (some false) else (if (x14 != x16) = true then (some false) else ((wapentakelaw17_given.f x140000 x140001 x140002).bind fun bt187 => (if (!(bt187.1 == x149000) || (!(bt187.2.1 == x149001) || (!(bt187.2.2 == x149002)))) = true then (some false) else ((wapentakelaw17_given.f x145000 x145001 x145002).bind fun bt190 => (if (!(bt190.1 == x153000) || (!(bt190.2.1 == x153001) || (!(bt190.2.2 == x153002)))) = true then (some false) else (wapentakelaw17_BucketPlays.l0 k x3 (wrap64 (x12 + 1)) x140000 x140001 x140002 x145000 x145001 x145002 x149000 x149001 x149002 x153000 x153001 x153002))))))
end
def wapentakelaw17_BucketPlays.f (k : Nat) (a0_0 : Int) (a0_1 : Int) (a0_2 : Int) (a1 : Int) (a2 : Int) (l3 : List Bool) : Option (Bool) := if (l3.length : Int) > 3000 then ((wapentakelaw17_awake.f).bind fun t140 => (some t140)) else ((bucket_New.f a1 a2).bind fun bt141 => ((wapentakelaw17_given.f a0_0 a0_1 a0_2).bind fun bt145 => ((wapentakeref17_New.f a1 a2).bind fun bt149 => ((wapentakelaw17_given.f bt141.1 bt141.2.1 bt141.2.2).bind fun bt153 => (if (!(bt153.1 == bt149.1) || (!(bt153.2.1 == bt149.2.1) || (!(bt153.2.2 == bt149.2.2)))) = true then (wapentakelaw17_BucketPlays.j0 k l3 true a0_0 a0_1 a0_2 bt141.1 bt141.2.1 bt141.2.2 bt145.1 bt145.2.1 bt145.2.2 bt149.1 bt149.2.1 bt149.2.2) else ((bucket_Bucket_Right.f a0_0 a0_1 a0_2).bind fun t156 => ((wapentakeref17_Right.f bt145.1 bt145.2.1 bt145.2.2).bind fun t157 => (wapentakelaw17_BucketPlays.j0 k l3 (t156 != t157) a0_0 a0_1 a0_2 bt141.1 bt141.2.1 bt141.2.2 bt145.1 bt145.2.1 bt145.2.2 bt149.1 bt149.2.1 bt149.2.2))))))))
theorem wapentakelaw17_BucketPlays.mono_l : ∀ k, (∀ y0 y1 y2 y3 y4 y5 y6 y7 y8 y9 y10 y11 y12 y13, LeO (wapentakelaw17_BucketPlays.j0 k y0 y1 y2 y3 y4 y5 y6 y7 y8 y9 y10 y11 y12 y13) (wapentakelaw17_BucketPlays.j0 (k + 1) y0 y1 y2 y3 y4 y5 y6 y7 y8 y9 y10 y11 y12 y13)) ∧ (∀ y0 y1 y2 y3 y4 y5 y6 y7 y8 y9 y10 y11 y12 y13, LeO (wapentakelaw17_BucketPlays.l0 k y0 y1 y2 y3 y4 y5 y6 y7 y8 y9 y10 y11 y12 y13) (wapentakelaw17_BucketPlays.l0 (k + 1) y0 y1 y2 y3 y4 y5 y6 y7 y8 y9 y10 y11 y12 y13)) ∧ (∀ y0 y1 y2 y3 y4 y5 y6 y7 y8 y9 y10 y11 y12 y13 y14 y15 y16 y17, LeO (wapentakelaw17_BucketPlays.j2 k y0 y1 y2 y3 y4 y5 y6 y7 y8 y9 y10 y11 y12 y13 y14 y15 y16 y17) (wapentakelaw17_BucketPlays.j2 (k + 1) y0 y1 y2 y3 y4 y5 y6 y7 y8 y9 y10 y11 y12 y13 y14 y15 y16 y17))
 | 0 => ⟨fun _ _ _ _ _ _ _ _ _ _ _ _ _ _ r h => by simp [wapentakelaw17_BucketPlays.j0] at h, fun _ _ _ _ _ _ _ _ _ _ _ _ _ _ r h => by simp [wapentakelaw17_BucketPlays.l0] at h, fun _ _ _ _ _ _ _ _ _ _ _ _ _ _ _ _ _ _ r h => by simp [wapentakelaw17_BucketPlays.j2] at h⟩
 | k + 1 => by
  obtain ⟨ih0, ih1, ih2⟩ := wapentakelaw17_BucketPlays.mono_l k
  refine ⟨?_, ?_, ?_⟩
  ·intro y0 y1 y2 y3 y4 y5 y6 y7 y8 y9 y10 y11 y12 y13
   unfold wapentakelaw17_BucketPlays.j0
   repeat' first
   | (with_reducible exact ih0 _ _ _ _ _ _ _ _ _ _ _ _ _ _)
   | (with_reducible exact ih1 _ _ _ _ _ _ _ _ _ _ _ _ _ _)
   | (with_reducible exact ih2 _ _ _ _ _ _ _ _ _ _ _ _ _ _ _ _ _ _)
   | (with_reducible exact wapentakeref17_Write.mono _ _ _ _)
   | (with_reducible exact LeO.refl _)
   | (with_reducible exact LeO.none _)
   | (with_reducible refine LeO.ite ?_ ?_)
   | (with_reducible refine LeO.bind ?_ (fun _ => ?_))
   | exact ih0 _ _ _ _ _ _ _ _ _ _ _ _ _ _
   | exact ih1 _ _ _ _ _ _ _ _ _ _ _ _ _ _
   | exact ih2 _ _ _ _ _ _ _ _ _ _ _ _ _ _ _ _ _ _
   | exact wapentakeref17_Write.mono _ _ _ _
   | exact LeO.none _
   | refine LeO.ite ?_ ?_
   | refine LeO.bind ?_ (fun _ => ?_)
  ·intro y0 y1 y2 y3 y4 y5 y6 y7 y8 y9 y10 y11 y12 y13
   unfold wapentakelaw17_BucketPlays.l0
   repeat' first
   | (with_reducible exact ih0 _ _ _ _ _ _ _ _ _ _ _ _ _ _)
   | (with_reducible exact ih1 _ _ _ _ _ _ _ _ _ _ _ _ _ _)
   | (with_reducible exact ih2 _ _ _ _ _ _ _ _ _ _ _ _ _ _ _ _ _ _)
   | (with_reducible exact wapentakeref17_Write.mono _ _ _ _)
   | (with_reducible exact LeO.refl _)
   | (with_reducible exact LeO.none _)
   | (with_reducible refine LeO.ite ?_ ?_)
   | (with_reducible refine LeO.bind ?_ (fun _ => ?_))
   | exact ih0 _ _ _ _ _ _ _ _ _ _ _ _ _ _
   | exact ih1 _ _ _ _ _ _ _ _ _ _ _ _ _ _
   | exact ih2 _ _ _ _ _ _ _ _ _ _ _ _ _ _ _ _ _ _
   | exact wapentakeref17_Write.mono _ _ _ _
   | exact LeO.none _
   | refine LeO.ite ?_ ?_
   | refine LeO.bind ?_ (fun _ => ?_)
  ·intro y0 y1 y2 y3 y4 y5 y6 y7 y8 y9 y10 y11 y12 y13 y14 y15 y16 y17
   unfold wapentakelaw17_BucketPlays.j2
   repeat' first
   | (with_reducible exact ih0 _ _ _ _ _ _ _ _ _ _ _ _ _ _)
   | (with_reducible exact ih1 _ _ _ _ _ _ _ _ _ _ _ _ _ _)
   | (with_reducible exact ih2 _ _ _ _ _ _ _ _ _ _ _ _ _ _ _ _ _ _)
   | (with_reducible exact wapentakeref17_Write.mono _ _ _ _)
   | (with_reducible exact LeO.refl _)
   | (with_reducible exact LeO.none _)
   | (with_reducible refine LeO.ite ?_ ?_)
   | (with_reducible refine LeO.bind ?_ (fun _ => ?_))
   | exact ih0 _ _ _ _ _ _ _ _ _ _ _ _ _ _
   | exact ih1 _ _ _ _ _ _ _ _ _ _ _ _ _ _
   | exact ih2 _ _ _ _ _ _ _ _ _ _ _ _ _ _ _ _ _ _
   | exact wapentakeref17_Write.mono _ _ _ _
   | exact LeO.none _
   | refine LeO.ite ?_ ?_
   | refine LeO.bind ?_ (fun _ => ?_)
theorem wapentakelaw17_BucketPlays.mono : ∀ a0 a1 a2 a3 a4 a5 k, LeO (wapentakelaw17_BucketPlays.f k a0 a1 a2 a3 a4 a5) (wapentakelaw17_BucketPlays.f (k + 1) a0 a1 a2 a3 a4 a5) := by
 intro a0 a1 a2 a3 a4 a5 k
 obtain ⟨ih0, ih1, ih2⟩ := wapentakelaw17_BucketPlays.mono_l k
 unfold wapentakelaw17_BucketPlays.f
 repeat' first
   | (with_reducible exact ih0 _ _ _ _ _ _ _ _ _ _ _ _ _ _)
   | (with_reducible exact ih1 _ _ _ _ _ _ _ _ _ _ _ _ _ _)
   | (with_reducible exact ih2 _ _ _ _ _ _ _ _ _ _ _ _ _ _ _ _ _ _)
   | (with_reducible exact wapentakeref17_Write.mono _ _ _ _)
   | (with_reducible exact LeO.refl _)
   | (with_reducible exact LeO.none _)
   | (with_reducible refine LeO.ite ?_ ?_)
   | (with_reducible refine LeO.bind ?_ (fun _ => ?_))
   | exact ih0 _ _ _ _ _ _ _ _ _ _ _ _ _ _
   | exact ih1 _ _ _ _ _ _ _ _ _ _ _ _ _ _
   | exact ih2 _ _ _ _ _ _ _ _ _ _ _ _ _ _ _ _ _ _
   | exact wapentakeref17_Write.mono _ _ _ _
   | exact LeO.none _
   | refine LeO.ite ?_ ?_
   | refine LeO.bind ?_ (fun _ => ?_)
def wapentakelaw17_BucketPlays.T6 : Bool × List (List Nat × List Nat) := (true, [([], []), ([0], [0]), ([], []), ([1, 2], [1, 2]), ([3, 1], [3]), ([4], [4]), ([5, 4, 4], [4, 5]), ([4], [4]), ([7, 6, 4], [4, 7]), ([6, 8, 4], [4, 6, 8]), ([4, 9], [4, 9])])
def wapentakelaw17_BucketPlays.B6 : List Nat := [0, 1, 0, 7, 15, 31, 63, 31, 255, 511, 1023]
theorem wapentakelaw17_BucketPlays.tab6 : rtab .any (opsOf Try.f3 6) = wapentakelaw17_BucketPlays.T6 := by kernel_rfl
theorem wapentakelaw17_BucketPlays.bits6 : waitsOk wapentakelaw17_BucketPlays.T6.2 wapentakelaw17_BucketPlays.B6 = true := by kernel_rfl
def wapentakelaw17_BucketPlays.T21 : Bool × List (List Nat × List Nat) := (true, [([], []), ([], []), ([0, 1], [0, 1]), ([2], [2]), ([3], [3]), ([3], [3]), ([4, 5, 3], [3, 4, 5]), ([3, 6], [3, 6]), ([7, 3], [7]), ([8], [8]), ([9, 8, 8], [8, 9]), ([8], [8]), ([10, 11, 8], [8, 10, 11]), ([8, 12], [8, 12]), ([13, 10], [13]), ([14], [14]), ([15, 14, 14], [14, 15]), ([14], [14]), ([16, 17, 14], [14, 16, 17]), ([14, 18], [14, 18])])
def wapentakelaw17_BucketPlays.B21 : List Nat := [0, 0, 3, 7, 15, 15, 63, 127, 255, 511, 1023, 511, 4095, 8191, 16383, 32767, 65535, 32767, 262143, 524287]
theorem wapentakelaw17_BucketPlays.tab21 : rtab .any (opsOf Try.f3 21) = wapentakelaw17_BucketPlays.T21 := by kernel_rfl
theorem wapentakelaw17_BucketPlays.bits21 : waitsOk wapentakelaw17_BucketPlays.T21.2 wapentakelaw17_BucketPlays.B21 = true := by kernel_rfl
def wapentakelaw17_BucketPlays.T23 : Bool × List (List Nat × List Nat) := (true, [([], []), ([0], [0]), ([], []), ([2, 1], [2]), ([1, 3], [1, 3]), ([4, 3], [4]), ([5], [5]), ([6, 5, 5], [5, 6]), ([5], [5]), ([8, 7, 5], [5, 8]), ([7, 9, 5], [5, 7, 9]), ([5, 10], [5, 10]), ([11, 9], [11]), ([12, 12], [12]), ([12, 13], [12, 13]), ([14, 13, 0, 1, 2, 3, 4, 5, 6, 7, 8, 9, 10, 11, 12, 13, 14], [14])])
def wapentakelaw17_BucketPlays.B23 : List Nat := [0, 1, 0, 7, 15, 31, 63, 127, 63, 511, 1023, 2047, 4095, 8191, 16383, 32767]
theorem wapentakelaw17_BucketPlays.tab23 : rtab .any (opsOf Try.f3 23) = wapentakelaw17_BucketPlays.T23 := by kernel_rfl
theorem wapentakelaw17_BucketPlays.bits23 : waitsOk wapentakelaw17_BucketPlays.T23.2 wapentakelaw17_BucketPlays.B23 = true := by kernel_rfl
set_option maxHeartbeats 8000000 in
set_option maxRecDepth 100000 in
theorem wapentakelaw17_BucketPlays.calls (k : Nat) (a0_0 : Int) (a0_1 : Int) (a0_2 : Int) (a1 : Int) (a2 : Int) (A3 : Option Addr) (c3 : Nat) (l3 : List Bool) (r : Bool) (w : World) (hr3 : Kd.C Kd.bool w A3 l3.length l3) (hc3 : l3.length ≤ c3) (h : wapentakelaw17_BucketPlays.f k a0_0 a0_1 a0_2 a1 a2 l3 = some r) :
  Calls Try.prog 3 #[.agg #[.int .i64 a0_0, .int .i64 a0_1, .int .i64 a0_2], .int .i64 a1, .int .i64 a2, .slice A3 l3.length c3] w fun e w' => e = .returned (.bool r) ∧ Below w.heap.size w w' := by
 have hu23 := Try.underlying23
 have hu27 := Try.underlying27
 have HR3 := Aside0.mk hr3
 have HC3 := Aside0.mk hc3
 clear hr3 hc3
 have HB := Aside0.mk (Below.refl w.heap.size w)
 have H : (if (l3.length : Int) > 3000 then ((wapentakelaw17_awake.f).bind fun t140 => (some t140)) else ((bucket_New.f a1 a2).bind fun bt141 => ((wapentakelaw17_given.f a0_0 a0_1 a0_2).bind fun bt145 => ((wapentakeref17_New.f a1 a2).bind fun bt149 => ((wapentakelaw17_given.f bt141.1 bt141.2.1 bt141.2.2).bind fun bt153 => (if (!(bt153.1 == bt149.1) || (!(bt153.2.1 == bt149.2.1) || (!(bt153.2.2 == bt149.2.2)))) = true then (wapentakelaw17_BucketPlays.j0 k l3 true a0_0 a0_1 a0_2 bt141.1 bt141.2.1 bt141.2.2 bt145.1 bt145.2.1 bt145.2.2 bt149.1 bt149.2.1 bt149.2.2) else ((bucket_Bucket_Right.f a0_0 a0_1 a0_2).bind fun t156 => ((wapentakeref17_Right.f bt145.1 bt145.2.1 bt145.2.2).bind fun t157 => (wapentakelaw17_BucketPlays.j0 k l3 (t156 != t157) a0_0 a0_1 a0_2 bt141.1 bt141.2.1 bt141.2.2 bt145.1 bt145.2.1 bt145.2.2 bt149.1 bt149.2.1 bt149.2.2))))))))) = some r := h
 clear h
 by_cases c5 : (l3.length : Int) > 3000
 ·rw [if_pos c5] at H
  have c5b0 : decide (3000 < (l3.length : Int)) = true := decide_eq_true c5
  have c5b1 : decide (3000 < l3.length) = true := decide_eq_true (by omega)
  clear c5
  replace H := Option.bind_eq_some_iff.mp H
  obtain ⟨t140, A60, H⟩ := H
  replace H : (some t140) = some r := H
  have A6 := Aside0.mk A60
  clear A60
  obtain rfl := Option.some.inj H
  go_enter Try.func3, Try.ntmps3
  go_wp2_with (first | ((with_reducible refine gate_dst (N := 4) rfl ?_); refine box_event ?hg (N := 4) ?hd (cs := #[.int .i64 a0_0, .int .i64 a0_1, .int .i64 a0_2]) (t := 23) ?hr ?_; (case hd => rfl); (case hg => rfl); (case hr => first | (go_simp; done) | (go_simp; rfl)); intro gb139 hg w7 hbox hb; have n0_ := Aside0.mk (below_step (by repeat (first | (with_reducible first | exact HB.out | apply below_alloc | apply pw_below_drewN | apply below_drew1) | exact HB.out)) hb); have n1_ := Aside0.mk ((show IsS23 w _ gb139 a0_0 a0_1 a0_2 from ⟨hbox, (by rw [hg]; exact (below_size (by repeat (first | (with_reducible first | exact HB.out | apply below_alloc | apply pw_below_drewN | apply below_drew1) | exact HB.out))))⟩)); clear HB; have HB := n0_; have HI139 := n1_; clear n0_ n1_; clear hb hbox hg) | ((with_reducible refine gate_callee (f := 9) rfl ?_); refine goesL_ (some 20) rfl rfl Try.func9 (by kernel_rfl) rfl #[] rfl (by (try simp only [List.map_toArray, List.map_cons, List.map_nil]); first | done | rfl | (simp only [List.length_drop, List.length_take]; rfl)) ?_; (with_reducible refine (wapentakelaw17_awake.calls  t140 _ A6.out).mono ?_); rintro e w8 ⟨rfl, hb⟩; refine ⟨_, rfl, ?_⟩; have n0_ := Aside0.mk (IsS23.below (by repeat (first | (with_reducible first | exact HI139.out | apply IsS23.alloc | apply IsS23.drewN | apply IsS23.drew | apply IsS23.set_0 | apply IsS23.set_1 | apply IsS23.set_2) | exact HI139.out)) hb); have n1_ := Aside0.mk (below_step (by repeat (first | (with_reducible first | exact HB.out | apply below_alloc | apply pw_below_drewN | apply below_drew1 | refine below_set ?_ (IsS23.ge HI139.out)) | exact HB.out)) hb); clear HI139; clear HB; have HI139 := n0_; have HB := n1_; clear n0_ n1_; (try clear hb); (try clear hb2); (try clear hk); (try clear hi)))
  go_ret
  exact ⟨by first | rfl | (simp [errW_none, errW_some] <;> rfl) | (simp [*, errW_none, errW_some] <;> rfl), by repeat (first | (with_reducible first | exact HB.out | apply below_alloc | apply pw_below_drewN | apply below_drew1 | refine below_set ?_ (IsS23.ge HI139.out)) | exact HB.out)⟩
 ·rw [if_neg c5] at H
  have c5b0 : decide (3000 < (l3.length : Int)) = false := decide_eq_false c5
  have c5b1 : decide (3000 < l3.length) = false := decide_eq_false (by omega)
  clear c5
  replace H := Option.bind_eq_some_iff.mp H
  obtain ⟨⟨t141, t142, t143⟩, A90, H⟩ := H
  replace H : ((wapentakelaw17_given.f a0_0 a0_1 a0_2).bind fun bt145 => ((wapentakeref17_New.f a1 a2).bind fun bt149 => ((wapentakelaw17_given.f t141 t142 t143).bind fun bt153 => (if (!(bt153.1 == bt149.1) || (!(bt153.2.1 == bt149.2.1) || (!(bt153.2.2 == bt149.2.2)))) = true then (wapentakelaw17_BucketPlays.j0 k l3 true a0_0 a0_1 a0_2 t141 t142 t143 bt145.1 bt145.2.1 bt145.2.2 bt149.1 bt149.2.1 bt149.2.2) else ((bucket_Bucket_Right.f a0_0 a0_1 a0_2).bind fun t156 => ((wapentakeref17_Right.f bt145.1 bt145.2.1 bt145.2.2).bind fun t157 => (wapentakelaw17_BucketPlays.j0 k l3 (t156 != t157) a0_0 a0_1 a0_2 t141 t142 t143 bt145.1 bt145.2.1 bt145.2.2 bt149.1 bt149.2.1 bt149.2.2))))))) = some r := H
  have A9 := Aside0.mk A90
  clear A90
  replace H := Option.bind_eq_some_iff.mp H
  obtain ⟨⟨t145, t146, t147⟩, A100, H⟩ := H
  replace H : ((wapentakeref17_New.f a1 a2).bind fun bt149 => ((wapentakelaw17_given.f t141 t142 t143).bind fun bt153 => (if (!(bt153.1 == bt149.1) || (!(bt153.2.1 == bt149.2.1) || (!(bt153.2.2 == bt149.2.2)))) = true then (wapentakelaw17_BucketPlays.j0 k l3 true a0_0 a0_1 a0_2 t141 t142 t143 t145 t146 t147 bt149.1 bt149.2.1 bt149.2.2) else ((bucket_Bucket_Right.f a0_0 a0_1 a0_2).bind fun t156 => ((wapentakeref17_Right.f t145 t146 t147).bind fun t157 => (wapentakelaw17_BucketPlays.j0 k l3 (t156 != t157) a0_0 a0_1 a0_2 t141 t142 t143 t145 t146 t147 bt149.1 bt149.2.1 bt149.2.2)))))) = some r := H
  have A10 := Aside0.mk A100
  clear A100
  replace H := Option.bind_eq_some_iff.mp H
  obtain ⟨⟨t149, t150, t151⟩, A110, H⟩ := H
  replace H : ((wapentakelaw17_given.f t141 t142 t143).bind fun bt153 => (if (!(bt153.1 == t149) || (!(bt153.2.1 == t150) || (!(bt153.2.2 == t151)))) = true then (wapentakelaw17_BucketPlays.j0 k l3 true a0_0 a0_1 a0_2 t141 t142 t143 t145 t146 t147 t149 t150 t151) else ((bucket_Bucket_Right.f a0_0 a0_1 a0_2).bind fun t156 => ((wapentakeref17_Right.f t145 t146 t147).bind fun t157 => (wapentakelaw17_BucketPlays.j0 k l3 (t156 != t157) a0_0 a0_1 a0_2 t141 t142 t143 t145 t146 t147 t149 t150 t151))))) = some r := H
  have A11 := Aside0.mk A110
  clear A110
  have HC12 := Aside0.mk H
  clear H
  go_enter Try.func3, Try.ntmps3
  go_upto_region 6 with (first | ((with_reducible refine gate_dst (N := 4) rfl ?_); refine box_event ?hg (N := 4) ?hd (cs := #[.int .i64 a0_0, .int .i64 a0_1, .int .i64 a0_2]) (t := 23) ?hr ?_; (case hd => rfl); (case hg => rfl); (case hr => first | (go_simp; done) | (go_simp; rfl)); intro gb139 hg w13 hbox hb; have n0_ := Aside0.mk (below_step (by repeat (first | (with_reducible first | exact HB.out | apply below_alloc | apply pw_below_drewN | apply below_drew1) | exact HB.out)) hb); have n1_ := Aside0.mk ((show IsS23 w _ gb139 a0_0 a0_1 a0_2 from ⟨hbox, (by rw [hg]; exact (below_size (by repeat (first | (with_reducible first | exact HB.out | apply below_alloc | apply pw_below_drewN | apply below_drew1) | exact HB.out))))⟩)); clear HB; have HB := n0_; have HI139 := n1_; clear n0_ n1_; clear hb hbox hg) | ((with_reducible refine gate_callee (f := 10) rfl ?_); refine goesL_ (some 23) rfl rfl Try.func10 (by kernel_rfl) rfl #[.int .i64 a1, .int .i64 a2] rfl (by (try simp only [List.map_toArray, List.map_cons, List.map_nil]); first | done | rfl | (simp only [List.length_drop, List.length_take]; rfl)) ?_; (with_reducible refine (bucket_New.calls a1 a2 t141 t142 t143 _ A9.out).mono ?_); rintro e w14 ⟨rfl, hb⟩; refine ⟨_, rfl, ?_⟩; have n0_ := Aside0.mk (IsS23.below (by repeat (first | (with_reducible first | exact HI139.out | apply IsS23.alloc | apply IsS23.drewN | apply IsS23.drew | apply IsS23.set_0 | apply IsS23.set_1 | apply IsS23.set_2) | exact HI139.out)) hb); have n1_ := Aside0.mk (below_step (by repeat (first | (with_reducible first | exact HB.out | apply below_alloc | apply pw_below_drewN | apply below_drew1 | refine below_set ?_ (IsS23.ge HI139.out)) | exact HB.out)) hb); clear HI139; clear HB; have HI139 := n0_; have HB := n1_; clear n0_ n1_; (try clear hb); (try clear hb2); (try clear hk); (try clear hi)) | ((with_reducible refine gate_dst (N := 9) rfl ?_); refine box_event ?hg (N := 9) ?hd (cs := #[.int .i64 0, .int .i64 0, .int .i64 0]) (t := 23) ?hr ?_; (case hd => rfl); (case hg => rfl); (case hr => first | (go_simp; done) | (go_simp; rfl)); intro gb144 hg w15 hbox hb; have n0_ := Aside0.mk (IsS23.below (by repeat (first | (with_reducible first | exact HI139.out | apply IsS23.alloc | apply IsS23.drewN | apply IsS23.drew | apply IsS23.set_0 | apply IsS23.set_1 | apply IsS23.set_2) | exact HI139.out)) hb); have n1_ := Aside0.mk (below_step (by repeat (first | (with_reducible first | exact HB.out | apply below_alloc | apply pw_below_drewN | apply below_drew1 | refine below_set ?_ (IsS23.ge HI139.out)) | exact HB.out)) hb); have n2_ := Aside0.mk ((show IsS23 w _ gb144 0 0 0 from ⟨hbox, (by rw [hg]; exact (below_size (by repeat (first | (with_reducible first | exact HB.out | apply below_alloc | apply pw_below_drewN | apply below_drew1 | refine below_set ?_ (IsS23.ge HI139.out)) | exact HB.out))))⟩)); have n3_ := Aside0.mk ((by rw [hg]; exact Nat.ne_of_lt (IsS23.lt (show IsS23 w _ gb139 a0_0 a0_1 a0_2 from by repeat (first | (with_reducible first | exact HI139.out | apply IsS23.alloc | apply IsS23.drewN | apply IsS23.drew | apply IsS23.set_0 | apply IsS23.set_1 | apply IsS23.set_2) | exact HI139.out))) : gb139 ≠ gb144)); have n4_ := Aside0.mk ((by rw [hg]; exact Nat.ne_of_gt (IsS23.lt (show IsS23 w _ gb139 a0_0 a0_1 a0_2 from by repeat (first | (with_reducible first | exact HI139.out | apply IsS23.alloc | apply IsS23.drewN | apply IsS23.drew | apply IsS23.set_0 | apply IsS23.set_1 | apply IsS23.set_2) | exact HI139.out))) : gb144 ≠ gb139)); clear HI139; clear HB; have HI139 := n0_; have HB := n1_; have HI144 := n2_; have NB139_144 := n3_; have NB144_139 := n4_; clear n0_ n1_ n2_ n3_ n4_; clear hb hbox hg; have hnb16 := NB144_139.out; have hnc16 := NB139_144.out; obtain ⟨HGz17, hgz17⟩ := HI144.out; have hcz17_0 := cellS23_0 HGz17; have hcz17_1 := cellS23_1 HGz17; have hcz17_2 := cellS23_2 HGz17; have hfz17_0 := blk_frozen HGz17 0; have hfz17_1 := blk_frozen HGz17 1; have hfz17_2 := blk_frozen HGz17 2; clear HGz17 hgz17; obtain ⟨HGz18, hgz18⟩ := HI139.out; have hcz18_0 := cellS23_0 HGz18; have hcz18_1 := cellS23_1 HGz18; have hcz18_2 := cellS23_2 HGz18; have hfz18_0 := blk_frozen HGz18 0; have hfz18_1 := blk_frozen HGz18 1; have hfz18_2 := blk_frozen HGz18 2; clear HGz18 hgz18) | ((with_reducible refine gate_callee (f := 11) rfl ?_); refine goesL_ (some 25) rfl rfl Try.func11 (by kernel_rfl) rfl #[.agg #[.int .i64 a0_0, .int .i64 a0_1, .int .i64 a0_2]] rfl (by (try simp only [List.map_toArray, List.map_cons, List.map_nil]); first | done | rfl | (simp only [List.length_drop, List.length_take]; rfl)) ?_; (with_reducible refine (wapentakelaw17_given.calls a0_0 a0_1 a0_2 t145 t146 t147 _ A10.out).mono ?_); rintro e w19 ⟨rfl, hb⟩; refine ⟨_, rfl, ?_⟩; have n0_ := Aside0.mk (IsS23.below (show IsS23 w (((w15.setCell ⟨gb144, 0, none⟩ (.int .i64 t141)).setCell ⟨gb144, 1, none⟩ (.int .i64 t142)).setCell ⟨gb144, 2, none⟩ (.int .i64 t143)) gb139 a0_0 a0_1 a0_2 from by repeat (first | (with_reducible first | exact HI139.out | apply IsS23.alloc | apply IsS23.drewN | apply IsS23.drew | apply IsS23.set_0 | apply IsS23.set_1 | apply IsS23.set_2 | refine IsS23.far ?_ NB139_144.out _) | exact HI139.out)) hb); have n1_ := Aside0.mk (IsS23.below (show IsS23 w (((w15.setCell ⟨gb144, 0, none⟩ (.int .i64 t141)).setCell ⟨gb144, 1, none⟩ (.int .i64 t142)).setCell ⟨gb144, 2, none⟩ (.int .i64 t143)) gb144 t141 t142 t143 from by repeat (first | (with_reducible first | exact HI144.out | apply IsS23.alloc | apply IsS23.drewN | apply IsS23.drew | apply IsS23.set_0 | apply IsS23.set_1 | apply IsS23.set_2 | refine IsS23.far ?_ NB144_139.out _) | exact HI144.out)) hb); have n2_ := Aside0.mk (below_step (by repeat (first | (with_reducible first | exact HB.out | apply below_alloc | apply pw_below_drewN | apply below_drew1 | refine below_set ?_ (IsS23.ge HI139.out) | refine below_set ?_ (IsS23.ge HI144.out)) | exact HB.out)) hb); clear HI139; clear HI144; clear HB; have HI139 := n0_; have HI144 := n1_; have HB := n2_; clear n0_ n1_ n2_; (try clear hb); (try clear hb2); (try clear hk); (try clear hi)) | ((with_reducible refine gate_dst (N := 10) rfl ?_); refine box_event ?hg (N := 10) ?hd (cs := #[.int .i64 0, .int .i64 0, .int .i64 0]) (t := 27) ?hr ?_; (case hd => rfl); (case hg => rfl); (case hr => first | (go_simp; done) | (go_simp; rfl)); intro gb148 hg w20 hbox hb; have n0_ := Aside0.mk (IsS23.below (by repeat (first | (with_reducible first | exact HI139.out | apply IsS23.alloc | apply IsS23.drewN | apply IsS23.drew | apply IsS23.set_0 | apply IsS23.set_1 | apply IsS23.set_2 | refine IsS23.far ?_ NB139_144.out _) | exact HI139.out)) hb); have n1_ := Aside0.mk (IsS23.below (by repeat (first | (with_reducible first | exact HI144.out | apply IsS23.alloc | apply IsS23.drewN | apply IsS23.drew | apply IsS23.set_0 | apply IsS23.set_1 | apply IsS23.set_2 | refine IsS23.far ?_ NB144_139.out _) | exact HI144.out)) hb); have n2_ := Aside0.mk (below_step (by repeat (first | (with_reducible first | exact HB.out | apply below_alloc | apply pw_below_drewN | apply below_drew1 | refine below_set ?_ (IsS23.ge HI139.out) | refine below_set ?_ (IsS23.ge HI144.out)) | exact HB.out)) hb); have n3_ := Aside0.mk (hbox); have n4_ := Aside0.mk ((by rw [hg]; exact (below_size (by repeat (first | (with_reducible first | exact HB.out | apply below_alloc | apply pw_below_drewN | apply below_drew1 | refine below_set ?_ (IsS23.ge HI139.out) | refine below_set ?_ (IsS23.ge HI144.out)) | exact HB.out))) : w.heap.size ≤ gb148)); have n5_ := Aside0.mk ((by rw [hg]; exact (below_size (by repeat (first | (with_reducible first | exact HB.out | apply below_alloc | apply pw_below_drewN | apply below_drew1 | refine below_set ?_ (IsS23.ge HI139.out) | refine below_set ?_ (IsS23.ge HI144.out)) | exact HB.out))) : w.heap.size ≤ gb148)); have n6_ := Aside0.mk ((by rw [hg]; exact Nat.ne_of_lt (IsS23.lt (show IsS23 w _ gb139 a0_0 a0_1 a0_2 from by repeat (first | (with_reducible first | exact HI139.out | apply IsS23.alloc | apply IsS23.drewN | apply IsS23.drew | apply IsS23.set_0 | apply IsS23.set_1 | apply IsS23.set_2 | refine IsS23.far ?_ NB139_144.out _) | exact HI139.out))) : gb139 ≠ gb148)); have n7_ := Aside0.mk ((by rw [hg]; exact Nat.ne_of_gt (IsS23.lt (show IsS23 w _ gb139 a0_0 a0_1 a0_2 from by repeat (first | (with_reducible first | exact HI139.out | apply IsS23.alloc | apply IsS23.drewN | apply IsS23.drew | apply IsS23.set_0 | apply IsS23.set_1 | apply IsS23.set_2 | refine IsS23.far ?_ NB139_144.out _) | exact HI139.out))) : gb148 ≠ gb139)); have n8_ := Aside0.mk ((by rw [hg]; exact Nat.ne_of_lt (IsS23.lt (show IsS23 w _ gb144 t141 t142 t143 from by repeat (first | (with_reducible first | exact HI144.out | apply IsS23.alloc | apply IsS23.drewN | apply IsS23.drew | apply IsS23.set_0 | apply IsS23.set_1 | apply IsS23.set_2 | refine IsS23.far ?_ NB144_139.out _) | exact HI144.out))) : gb144 ≠ gb148)); have n9_ := Aside0.mk ((by rw [hg]; exact Nat.ne_of_gt (IsS23.lt (show IsS23 w _ gb144 t141 t142 t143 from by repeat (first | (with_reducible first | exact HI144.out | apply IsS23.alloc | apply IsS23.drewN | apply IsS23.drew | apply IsS23.set_0 | apply IsS23.set_1 | apply IsS23.set_2 | refine IsS23.far ?_ NB144_139.out _) | exact HI144.out))) : gb148 ≠ gb144)); clear HI139; clear HI144; clear HB; have HI139 := n0_; have HI144 := n1_; have HB := n2_; have BK148 := n3_; have GW148 := n4_; have GE148 := n5_; have NB139_148 := n6_; have NB148_139 := n7_; have NB144_148 := n8_; have NB148_144 := n9_; clear n0_ n1_ n2_ n3_ n4_ n5_ n6_ n7_ n8_ n9_; clear hb hbox hg; have hnb21 := NB148_139.out; have hnc21 := NB139_148.out; have hnb22 := NB148_144.out; have hnc22 := NB144_148.out; have hcz23_0 : w20.cell? ⟨gb148, 0, none⟩ = some (.int .i64 0) := (blk_cell BK148.out 0).trans rfl; have hcz23_1 : w20.cell? ⟨gb148, 1, none⟩ = some (.int .i64 0) := (blk_cell BK148.out 1).trans rfl; have hcz23_2 : w20.cell? ⟨gb148, 2, none⟩ = some (.int .i64 0) := (blk_cell BK148.out 2).trans rfl; have hfz23_0 := blk_frozen BK148.out 0; have hfz23_1 := blk_frozen BK148.out 1; have hfz23_2 := blk_frozen BK148.out 2) | ((with_reducible refine gate_callee (f := 12) rfl ?_); refine goesL_ (some 28) rfl rfl Try.func12 (by kernel_rfl) rfl #[.int .i64 a1, .int .i64 a2] rfl (by (try simp only [List.map_toArray, List.map_cons, List.map_nil]); first | done | rfl | (simp only [List.length_drop, List.length_take]; rfl)) ?_; (with_reducible refine (wapentakeref17_New.calls a1 a2 t149 t150 t151 _ A11.out).mono ?_); rintro e w24 ⟨rfl, hb⟩; refine ⟨_, rfl, ?_⟩; have n0_ := Aside0.mk (IsS23.below (show IsS23 w (((w20.setCell ⟨gb148, 0, none⟩ (.int .i64 t145)).setCell ⟨gb148, 1, none⟩ (.int .i64 t146)).setCell ⟨gb148, 2, none⟩ (.int .i64 t147)) gb139 a0_0 a0_1 a0_2 from by repeat (first | (with_reducible first | exact HI139.out | apply IsS23.alloc | apply IsS23.drewN | apply IsS23.drew | apply IsS23.set_0 | apply IsS23.set_1 | apply IsS23.set_2 | refine IsS23.far ?_ NB139_148.out _ | refine IsS23.far ?_ NB139_144.out _) | exact HI139.out)) hb); have n1_ := Aside0.mk (IsS23.below (show IsS23 w (((w20.setCell ⟨gb148, 0, none⟩ (.int .i64 t145)).setCell ⟨gb148, 1, none⟩ (.int .i64 t146)).setCell ⟨gb148, 2, none⟩ (.int .i64 t147)) gb144 t141 t142 t143 from by repeat (first | (with_reducible first | exact HI144.out | apply IsS23.alloc | apply IsS23.drewN | apply IsS23.drew | apply IsS23.set_0 | apply IsS23.set_1 | apply IsS23.set_2 | refine IsS23.far ?_ NB144_148.out _ | refine IsS23.far ?_ NB144_139.out _) | exact HI144.out)) hb); have n2_ := Aside0.mk (blk_below (g := gb148) (o := .cells #[.int .i64 t145, .int .i64 t146, .int .i64 t147] 27 (0, 0)) (by (with_reducible repeat (first | refine blk_drewN ?_ _ | refine blk_drew ?_ | refine blk_alloc ?_ _)); refine blk_put (cs := #[.int .i64 t145, .int .i64 t146, .int .i64 0]) ?_ 2 _ rfl; (with_reducible repeat (first | refine blk_drewN ?_ _ | refine blk_drew ?_ | refine blk_alloc ?_ _)); refine blk_put (cs := #[.int .i64 t145, .int .i64 0, .int .i64 0]) ?_ 1 _ rfl; (with_reducible repeat (first | refine blk_drewN ?_ _ | refine blk_drew ?_ | refine blk_alloc ?_ _)); refine blk_put (cs := #[.int .i64 0, .int .i64 0, .int .i64 0]) ?_ 0 _ rfl; (with_reducible repeat (first | refine blk_drewN ?_ _ | refine blk_drew ?_ | refine blk_alloc ?_ _)); exact BK148.out) hb); have n3_ := Aside0.mk (below_step (by repeat (first | (with_reducible first | exact HB.out | apply below_alloc | apply pw_below_drewN | apply below_drew1 | refine below_set ?_ (IsS23.ge HI139.out) | refine below_set ?_ (IsS23.ge HI144.out) | refine below_set ?_ GE148.out) | exact HB.out)) hb); clear HI139; clear HI144; clear BK148; clear HB; have HI139 := n0_; have HI144 := n1_; have BK148 := n2_; have HB := n3_; clear n0_ n1_ n2_ n3_; (try clear hb); (try clear hb2); (try clear hk); (try clear hi)) | ((with_reducible refine gate_dst (N := 11) rfl ?_); refine box_event ?hg (N := 11) ?hd (cs := #[.int .i64 0, .int .i64 0, .int .i64 0]) (t := 27) ?hr ?_; (case hd => rfl); (case hg => rfl); (case hr => first | (go_simp; done) | (go_simp; rfl)); intro gb152 hg w25 hbox hb; have n0_ := Aside0.mk (IsS23.below (by repeat (first | (with_reducible first | exact HI139.out | apply IsS23.alloc | apply IsS23.drewN | apply IsS23.drew | apply IsS23.set_0 | apply IsS23.set_1 | apply IsS23.set_2 | refine IsS23.far ?_ NB139_148.out _ | refine IsS23.far ?_ NB139_144.out _) | exact HI139.out)) hb); have n1_ := Aside0.mk (IsS23.below (by repeat (first | (with_reducible first | exact HI144.out | apply IsS23.alloc | apply IsS23.drewN | apply IsS23.drew | apply IsS23.set_0 | apply IsS23.set_1 | apply IsS23.set_2 | refine IsS23.far ?_ NB144_148.out _ | refine IsS23.far ?_ NB144_139.out _) | exact HI144.out)) hb); have n2_ := Aside0.mk (blk_below (g := gb148) (o := .cells #[.int .i64 t145, .int .i64 t146, .int .i64 t147] 27 (0, 0)) (by (with_reducible repeat (first | refine blk_drewN ?_ _ | refine blk_drew ?_ | refine blk_alloc ?_ _)); exact BK148.out) hb); have n3_ := Aside0.mk (below_step (by repeat (first | (with_reducible first | exact HB.out | apply below_alloc | apply pw_below_drewN | apply below_drew1 | refine below_set ?_ (IsS23.ge HI139.out) | refine below_set ?_ (IsS23.ge HI144.out) | refine below_set ?_ GE148.out) | exact HB.out)) hb); have n4_ := Aside0.mk (hbox); have n5_ := Aside0.mk ((by rw [hg]; exact (below_size (by repeat (first | (with_reducible first | exact HB.out | apply below_alloc | apply pw_below_drewN | apply below_drew1 | refine below_set ?_ (IsS23.ge HI139.out) | refine below_set ?_ (IsS23.ge HI144.out) | refine below_set ?_ GE148.out) | exact HB.out))) : w.heap.size ≤ gb152)); have n6_ := Aside0.mk ((by rw [hg]; exact (below_size (by repeat (first | (with_reducible first | exact HB.out | apply below_alloc | apply pw_below_drewN | apply below_drew1 | refine below_set ?_ (IsS23.ge HI139.out) | refine below_set ?_ (IsS23.ge HI144.out) | refine below_set ?_ GE148.out) | exact HB.out))) : w.heap.size ≤ gb152)); have n7_ := Aside0.mk ((by rw [hg]; exact Nat.ne_of_lt (blk_lt (g := gb148) (o := .cells #[.int .i64 t145, .int .i64 t146, .int .i64 t147] 27 (0, 0)) (by (with_reducible repeat (first | refine blk_drewN ?_ _ | refine blk_drew ?_ | refine blk_alloc ?_ _)); exact BK148.out)) : gb148 ≠ gb152)); have n8_ := Aside0.mk ((by rw [hg]; exact Nat.ne_of_gt (blk_lt (g := gb148) (o := .cells #[.int .i64 t145, .int .i64 t146, .int .i64 t147] 27 (0, 0)) (by (with_reducible repeat (first | refine blk_drewN ?_ _ | refine blk_drew ?_ | refine blk_alloc ?_ _)); exact BK148.out)) : gb152 ≠ gb148)); have n9_ := Aside0.mk ((by rw [hg]; exact Nat.ne_of_lt (IsS23.lt (show IsS23 w _ gb139 a0_0 a0_1 a0_2 from by repeat (first | (with_reducible first | exact HI139.out | apply IsS23.alloc | apply IsS23.drewN | apply IsS23.drew | apply IsS23.set_0 | apply IsS23.set_1 | apply IsS23.set_2 | refine IsS23.far ?_ NB139_148.out _ | refine IsS23.far ?_ NB139_144.out _) | exact HI139.out))) : gb139 ≠ gb152)); have n10_ := Aside0.mk ((by rw [hg]; exact Nat.ne_of_gt (IsS23.lt (show IsS23 w _ gb139 a0_0 a0_1 a0_2 from by repeat (first | (with_reducible first | exact HI139.out | apply IsS23.alloc | apply IsS23.drewN | apply IsS23.drew | apply IsS23.set_0 | apply IsS23.set_1 | apply IsS23.set_2 | refine IsS23.far ?_ NB139_148.out _ | refine IsS23.far ?_ NB139_144.out _) | exact HI139.out))) : gb152 ≠ gb139)); have n11_ := Aside0.mk ((by rw [hg]; exact Nat.ne_of_lt (IsS23.lt (show IsS23 w _ gb144 t141 t142 t143 from by repeat (first | (with_reducible first | exact HI144.out | apply IsS23.alloc | apply IsS23.drewN | apply IsS23.drew | apply IsS23.set_0 | apply IsS23.set_1 | apply IsS23.set_2 | refine IsS23.far ?_ NB144_148.out _ | refine IsS23.far ?_ NB144_139.out _) | exact HI144.out))) : gb144 ≠ gb152)); have n12_ := Aside0.mk ((by rw [hg]; exact Nat.ne_of_gt (IsS23.lt (show IsS23 w _ gb144 t141 t142 t143 from by repeat (first | (with_reducible first | exact HI144.out | apply IsS23.alloc | apply IsS23.drewN | apply IsS23.drew | apply IsS23.set_0 | apply IsS23.set_1 | apply IsS23.set_2 | refine IsS23.far ?_ NB144_148.out _ | refine IsS23.far ?_ NB144_139.out _) | exact HI144.out))) : gb152 ≠ gb144)); clear HI139; clear HI144; clear BK148; clear HB; have HI139 := n0_; have HI144 := n1_; have BK148 := n2_; have HB := n3_; have BK152 := n4_; have GW152 := n5_; have GE152 := n6_; have NB148_152 := n7_; have NB152_148 := n8_; have NB139_152 := n9_; have NB152_139 := n10_; have NB144_152 := n11_; have NB152_144 := n12_; clear n0_ n1_ n2_ n3_ n4_ n5_ n6_ n7_ n8_ n9_ n10_ n11_ n12_; clear hb hbox hg; have hnb26 := NB152_148.out; have hnc26 := NB148_152.out; have hnb27 := NB152_139.out; have hnc27 := NB139_152.out; have hnb28 := NB152_144.out; have hnc28 := NB144_152.out; have hcz29_0 : w25.cell? ⟨gb152, 0, none⟩ = some (.int .i64 0) := (blk_cell BK152.out 0).trans rfl; have hcz29_1 : w25.cell? ⟨gb152, 1, none⟩ = some (.int .i64 0) := (blk_cell BK152.out 1).trans rfl; have hcz29_2 : w25.cell? ⟨gb152, 2, none⟩ = some (.int .i64 0) := (blk_cell BK152.out 2).trans rfl; have hfz29_0 := blk_frozen BK152.out 0; have hfz29_1 := blk_frozen BK152.out 1; have hfz29_2 := blk_frozen BK152.out 2))
  (try simp only [Act.put, zA, zB, zC])
  go_cut [39] (fun v39 wc => ∃ (kq : Nat) (x39_11 : Bool), v39 = .bool x39_11 ∧ Aside0 (wapentakelaw17_BucketPlays.j0 kq l3 x39_11 a0_0 a0_1 a0_2 t141 t142 t143 t145 t146 t147 t149 t150 t151 = some r) ∧ Aside0 (kq ≤ k) ∧ Aside0 (wc.heap[gb148]? = some (.cells #[.int .i64 t145, .int .i64 t146, .int .i64 t147] 27 (0, 0))) ∧ Aside0 (wc.heap[gb152]? = some (.cells #[.int .i64 t149, .int .i64 t150, .int .i64 t151] 27 (0, 0))) ∧ Aside0 (IsS23 w wc gb139 a0_0 a0_1 a0_2) ∧ Aside0 (IsS23 w wc gb144 t141 t142 t143) ∧ Aside0 (Below w.heap.size w wc))
  case first =>
   have H := HC12.out
   clear HC12
   replace H := Option.bind_eq_some_iff.mp H
   obtain ⟨⟨t153, t154, t155⟩, A300, H⟩ := H
   replace H : (if (!(t153 == t149) || (!(t154 == t150) || (!(t155 == t151)))) = true then (wapentakelaw17_BucketPlays.j0 k l3 true a0_0 a0_1 a0_2 t141 t142 t143 t145 t146 t147 t149 t150 t151) else ((bucket_Bucket_Right.f a0_0 a0_1 a0_2).bind fun t156 => ((wapentakeref17_Right.f t145 t146 t147).bind fun t157 => (wapentakelaw17_BucketPlays.j0 k l3 (t156 != t157) a0_0 a0_1 a0_2 t141 t142 t143 t145 t146 t147 t149 t150 t151)))) = some r := H
   have A30 := Aside0.mk A300
   clear A300
   by_cases c31 : (!(t153 == t149) || (!(t154 == t150) || (!(t155 == t151)))) = true
   ·rw [if_pos c31] at H
    have c31b0 : (!(t153 == t149) || (!(t154 == t150) || (!(t155 == t151)))) = true := c31
    clear c31
    (first | rw [c31b0] | (simp only [i64_w, i32_w]; rw [c31b0]) | skip)
    have H' := Aside0.mk H
    clear H
    try go_wp2
    have n0_ : Aside0 ((((w25.setCell ⟨gb152, 0, none⟩ (.int .i64 t149)).setCell ⟨gb152, 1, none⟩ (.int .i64 t150)).setCell ⟨gb152, 2, none⟩ (.int .i64 t151)).heap[gb148]? = some (.cells #[.int .i64 t145, .int .i64 t146, .int .i64 t147] 27 (0, 0))) := ⟨by (with_reducible repeat (first | refine blk_drewN ?_ _ | refine blk_drew ?_ | refine blk_alloc ?_ _)); refine blk_far ?_ NB148_152.out _; (with_reducible repeat (first | refine blk_drewN ?_ _ | refine blk_drew ?_ | refine blk_alloc ?_ _)); refine blk_far ?_ NB148_152.out _; (with_reducible repeat (first | refine blk_drewN ?_ _ | refine blk_drew ?_ | refine blk_alloc ?_ _)); refine blk_far ?_ NB148_152.out _; (with_reducible repeat (first | refine blk_drewN ?_ _ | refine blk_drew ?_ | refine blk_alloc ?_ _)); exact BK148.out⟩
    have n1_ : Aside0 ((((w25.setCell ⟨gb152, 0, none⟩ (.int .i64 t149)).setCell ⟨gb152, 1, none⟩ (.int .i64 t150)).setCell ⟨gb152, 2, none⟩ (.int .i64 t151)).heap[gb152]? = some (.cells #[.int .i64 t149, .int .i64 t150, .int .i64 t151] 27 (0, 0))) := ⟨by (with_reducible repeat (first | refine blk_drewN ?_ _ | refine blk_drew ?_ | refine blk_alloc ?_ _)); refine blk_put (cs := #[.int .i64 t149, .int .i64 t150, .int .i64 0]) ?_ 2 _ rfl; (with_reducible repeat (first | refine blk_drewN ?_ _ | refine blk_drew ?_ | refine blk_alloc ?_ _)); refine blk_put (cs := #[.int .i64 t149, .int .i64 0, .int .i64 0]) ?_ 1 _ rfl; (with_reducible repeat (first | refine blk_drewN ?_ _ | refine blk_drew ?_ | refine blk_alloc ?_ _)); refine blk_put (cs := #[.int .i64 0, .int .i64 0, .int .i64 0]) ?_ 0 _ rfl; (with_reducible repeat (first | refine blk_drewN ?_ _ | refine blk_drew ?_ | refine blk_alloc ?_ _)); exact BK152.out⟩
    have n2_ : Aside0 (IsS23 w (((w25.setCell ⟨gb152, 0, none⟩ (.int .i64 t149)).setCell ⟨gb152, 1, none⟩ (.int .i64 t150)).setCell ⟨gb152, 2, none⟩ (.int .i64 t151)) gb139 a0_0 a0_1 a0_2) := ⟨by repeat (first | (with_reducible first | exact HI139.out | apply IsS23.alloc | apply IsS23.drewN | apply IsS23.drew | apply IsS23.set_0 | apply IsS23.set_1 | apply IsS23.set_2 | refine IsS23.far ?_ NB139_148.out _ | refine IsS23.far ?_ NB139_152.out _ | refine IsS23.far ?_ NB139_144.out _) | exact HI139.out)⟩
    have n3_ : Aside0 (IsS23 w (((w25.setCell ⟨gb152, 0, none⟩ (.int .i64 t149)).setCell ⟨gb152, 1, none⟩ (.int .i64 t150)).setCell ⟨gb152, 2, none⟩ (.int .i64 t151)) gb144 t141 t142 t143) := ⟨by repeat (first | (with_reducible first | exact HI144.out | apply IsS23.alloc | apply IsS23.drewN | apply IsS23.drew | apply IsS23.set_0 | apply IsS23.set_1 | apply IsS23.set_2 | refine IsS23.far ?_ NB144_148.out _ | refine IsS23.far ?_ NB144_152.out _ | refine IsS23.far ?_ NB144_139.out _) | exact HI144.out)⟩
    have n4_ : Aside0 (Below w.heap.size w (((w25.setCell ⟨gb152, 0, none⟩ (.int .i64 t149)).setCell ⟨gb152, 1, none⟩ (.int .i64 t150)).setCell ⟨gb152, 2, none⟩ (.int .i64 t151))) := ⟨by repeat (first | (with_reducible first | exact HB.out | apply below_alloc | apply pw_below_drewN | apply below_drew1 | refine below_set ?_ (IsS23.ge HI139.out) | refine below_set ?_ (IsS23.ge HI144.out) | refine below_set ?_ GE148.out | refine below_set ?_ GE152.out) | exact HB.out)⟩
    (try clear BK148)
    (try clear BK152)
    (try clear HI139)
    (try clear HI144)
    (try clear HB)
    generalize (((w25.setCell ⟨gb152, 0, none⟩ (.int .i64 t149)).setCell ⟨gb152, 1, none⟩ (.int .i64 t150)).setCell ⟨gb152, 2, none⟩ (.int .i64 t151)) = w32 at n0_ n1_ n2_ n3_ n4_ ⊢
    have BK148 := n0_
    have BK152 := n1_
    have HI139 := n2_
    have HI144 := n3_
    have HB := n4_
    clear n0_ n1_ n2_ n3_ n4_
    have n0_ := Aside0.mk (blk_drew BK148.out)
    have n1_ := Aside0.mk (blk_drew BK152.out)
    have n2_ := Aside0.mk (IsS23.drew HI139.out)
    have n3_ := Aside0.mk (IsS23.drew HI144.out)
    have n4_ := Aside0.mk (below_drew1 HB.out)
    clear BK148
    clear BK152
    clear HI139
    clear HI144
    clear HB
    have BK148 := n0_
    have BK152 := n1_
    have HI139 := n2_
    have HI144 := n3_
    have HB := n4_
    clear n0_ n1_ n2_ n3_ n4_
    refine start_ (n := 11) (S := fun w' => w'.cell? ⟨gb144, 0, none⟩ = some (.int .i64 t141) ∧ w'.cell? ⟨gb144, 1, none⟩ = some (.int .i64 t142) ∧ w'.cell? ⟨gb144, 2, none⟩ = some (.int .i64 t143) ∧ w'.cell? ⟨gb152, 0, none⟩ = some (.int .i64 t149) ∧ w'.cell? ⟨gb152, 1, none⟩ = some (.int .i64 t150) ∧ w'.cell? ⟨gb152, 2, none⟩ = some (.int .i64 t151)) (ds := []) #[false, false, false, false, false, false, false, false, false, false, false] (by kernel_rfl) rfl rfl ⟨(blk_cell HI144.out.1 0).trans rfl, (blk_cell HI144.out.1 1).trans rfl, (blk_cell HI144.out.1 2).trans rfl, (blk_cell BK152.out 0).trans rfl, (blk_cell BK152.out 1).trans rfl, (blk_cell BK152.out 2).trans rfl⟩ (fun hHeld => ?_); refine with_tabW wapentakelaw17_BucketPlays.tab6 wapentakelaw17_BucketPlays.bits6 (fun HT_ HW_ => ?_)
    generalize w32.drew = w33 at BK148 BK152 HI139 HI144 HB hHeld ⊢
    refine take_ (i := 0) (N := some 29) (v := ?_) (a' := ?_) (bq_ 11 1) rfl rfl (take_ofW HT_.out HW_.out (by kernel_rfl)) (fun _ _ _ h => h) (Or.inl ⟨by rfl, ?_⟩) hHeld ?_ ?_
    rotate_left
    ·rintro w' ⟨s0, s1, s2, s3, s4, s5⟩
     go_simp
     with_reducible rfl
    rotate_left
    ·simp only [Act.put, zA, zB, zC, i64_w, i32_w]
     rfl
    refine take_ (i := 2) (N := some 31) (v := ?_) (a' := ?_) (bq_ 11 5) rfl rfl (take_ofW HT_.out HW_.out (by kernel_rfl)) (fun _ _ _ h => h) (Or.inl ⟨by rfl, ?_⟩) hHeld ?_ ?_
    rotate_left
    ·rintro w' ⟨s0, s1, s2, s3, s4, s5⟩
     go_simp
     with_reducible rfl
    rotate_left
    ·simp only [Act.put, zA, zB, zC, i64_w, i32_w]
     rfl
    refine one_ (i := 1) (N := some 30) (bq_ 11 7) rfl rfl (one_of HT_.out (by kernel_rfl)) (by decide) (fun K hK => ?_)
    refine goes_ Try.func11 (by kernel_rfl) rfl #[.agg #[.int .i64 t141, .int .i64 t142, .int .i64 t143]] (by rfl) rfl rfl (by (try simp only [List.map_toArray, List.map_cons, List.map_nil]); first | done | rfl | (simp only [List.length_drop, List.length_take]; rfl)) ?_
    with_reducible refine (wapentakelaw17_given.calls t141 t142 t143 t153 t154 t155 _ A30.out).mono ?_
    rintro e w34 ⟨rfl, hb⟩
    refine ⟨_, rfl, ?_⟩
    have n0_ := Aside0.mk (IsS23.below (by repeat (first | (with_reducible first | exact HI139.out | apply IsS23.alloc | apply IsS23.drewN | apply IsS23.drew | apply IsS23.set_0 | apply IsS23.set_1 | apply IsS23.set_2 | refine IsS23.far ?_ NB139_148.out _ | refine IsS23.far ?_ NB139_152.out _ | refine IsS23.far ?_ NB139_144.out _) | exact HI139.out)) hb)
    have n1_ := Aside0.mk (IsS23.below (by repeat (first | (with_reducible first | exact HI144.out | apply IsS23.alloc | apply IsS23.drewN | apply IsS23.drew | apply IsS23.set_0 | apply IsS23.set_1 | apply IsS23.set_2 | refine IsS23.far ?_ NB144_148.out _ | refine IsS23.far ?_ NB144_152.out _ | refine IsS23.far ?_ NB144_139.out _) | exact HI144.out)) hb)
    have n2_ := Aside0.mk (blk_below (g := gb148) (o := .cells #[.int .i64 t145, .int .i64 t146, .int .i64 t147] 27 (0, 0)) (by (with_reducible repeat (first | refine blk_drewN ?_ _ | refine blk_drew ?_ | refine blk_alloc ?_ _)); exact BK148.out) hb)
    have n3_ := Aside0.mk (blk_below (g := gb152) (o := .cells #[.int .i64 t149, .int .i64 t150, .int .i64 t151] 27 (0, 0)) (by (with_reducible repeat (first | refine blk_drewN ?_ _ | refine blk_drew ?_ | refine blk_alloc ?_ _)); exact BK152.out) hb)
    have n4_ := Aside0.mk (below_step (by repeat (first | (with_reducible first | exact HB.out | apply below_alloc | apply pw_below_drewN | apply below_drew1 | refine below_set ?_ (IsS23.ge HI139.out) | refine below_set ?_ (IsS23.ge HI144.out) | refine below_set ?_ GE148.out | refine below_set ?_ GE152.out) | exact HB.out)) hb)
    clear HI139
    clear HI144
    clear BK148
    clear BK152
    clear HB
    have HI139 := n0_
    have HI144 := n1_
    have BK148 := n2_
    have BK152 := n3_
    have HB := n4_
    clear n0_ n1_ n2_ n3_ n4_
    (try clear hb)
    (try clear hb2)
    (try clear hk)
    (try clear hi)
    refine hK.out _ _ ⟨(blk_cell HI144.out.1 0).trans rfl, (blk_cell HI144.out.1 1).trans rfl, (blk_cell HI144.out.1 2).trans rfl, (blk_cell BK152.out 0).trans rfl, (blk_cell BK152.out 1).trans rfl, (blk_cell BK152.out 2).trans rfl⟩ (fun hHeld => ?_)
    clear hK K
    refine norm_ (a' := ?_) ?_ ?_
    rotate_left
    ·show Act.put _ (some 30) _ = _
     simp only [Act.put, zA, zB, zC, i64_w, i32_w]
     rfl
    refine pure_ (i := 3) (N := some 32) (v := ?_) (a' := ?_) (bq_ 11 15) rfl rfl (any_of HT_.out (by kernel_rfl)) (fun _ _ _ h => h) (Or.inl ⟨by rfl, ?_⟩) ?_ ?_
    rotate_left
    ·intro w'
     go_simp
     with_reducible rfl
    rotate_left
    ·simp only [Act.put, zA, zB, zC, i64_w, i32_w]
     rfl
    refine pure_ (i := 4) (N := some 33) (v := ?_) (a' := ?_) (bq_ 11 31) rfl rfl (any_of HT_.out (by kernel_rfl)) (fun _ _ _ h => h) (Or.inl ⟨by rfl, ?_⟩) ?_ ?_
    rotate_left
    ·intro w'
     go_simp
     with_reducible rfl
    rotate_left
    ·simp only [Act.put, zA, zB, zC, i64_w, i32_w]
     rfl
    refine pure_ (i := 5) (N := some 34) (v := undef) (a' := ?_) (bq_ 11 63) rfl rfl (any_of HT_.out (by kernel_rfl)) (fun _ _ _ h => h) (Or.inr ⟨by rfl, rfl⟩) ?_ ?_
    rotate_left
    ·simp only [Act.put, zA, zB, zC, i64_w, i32_w]
     rfl
    refine pure_ (i := 6) (N := some 35) (v := undef) (a' := ?_) (bq_ 11 127) rfl rfl (any_of HT_.out (by kernel_rfl)) (fun _ _ _ h => h) (Or.inr ⟨by rfl, rfl⟩) ?_ ?_
    rotate_left
    ·simp only [Act.put, zA, zB, zC, i64_w, i32_w]
     rfl
    refine pure_ (i := 7) (N := some 36) (v := undef) (a' := ?_) (bq_ 11 255) rfl rfl (any_of HT_.out (by kernel_rfl)) (fun _ _ _ h => h) (Or.inr ⟨by rfl, rfl⟩) ?_ ?_
    rotate_left
    ·simp only [Act.put, zA, zB, zC, i64_w, i32_w]
     rfl
    refine pure_ (i := 8) (N := some 37) (v := undef) (a' := ?_) (bq_ 11 511) rfl rfl (any_of HT_.out (by kernel_rfl)) (fun _ _ _ h => h) (Or.inr ⟨by rfl, rfl⟩) ?_ ?_
    rotate_left
    ·simp only [Act.put, zA, zB, zC, i64_w, i32_w]
     rfl
    refine pure_ (i := 9) (N := some 38) (v := undef) (a' := ?_) (bq_ 11 1023) rfl rfl (any_of HT_.out (by kernel_rfl)) (fun _ _ _ h => h) (Or.inr ⟨by rfl, rfl⟩) ?_ ?_
    rotate_left
    ·simp only [Act.put, zA, zB, zC, i64_w, i32_w]
     rfl
    refine pure_ (i := 10) (N := some 39) (v := ?_) (a' := ?_) (bq_ 11 2047) rfl rfl (any_of HT_.out (by kernel_rfl)) (fun _ _ _ h => h) (Or.inl ⟨by rfl, ?_⟩) ?_ ?_
    rotate_left
    ·intro w'
     go_simp
     with_reducible rfl
    rotate_left
    ·simp only [Act.put, zA, zB, zC, i64_w, i32_w]
     rfl
    refine done_ (done_of HT_.out (by kernel_rfl)) ?_
    try go_wp2
    go_meet
    case rel => exact ⟨_, (true), (by first | rfl | (simp; done) | (simp [*]; done)), H', ⟨by first | omega | exact Nat.le_refl _⟩, ⟨by (with_reducible repeat (first | refine blk_drewN ?_ _ | refine blk_drew ?_ | refine blk_alloc ?_ _)); exact BK148.out⟩, ⟨by (with_reducible repeat (first | refine blk_drewN ?_ _ | refine blk_drew ?_ | refine blk_alloc ?_ _)); exact BK152.out⟩, ⟨by repeat (first | (with_reducible first | exact HI139.out | apply IsS23.alloc | apply IsS23.drewN | apply IsS23.drew | apply IsS23.set_0 | apply IsS23.set_1 | apply IsS23.set_2 | refine IsS23.far ?_ NB139_148.out _ | refine IsS23.far ?_ NB139_152.out _ | refine IsS23.far ?_ NB139_144.out _) | exact HI139.out)⟩, ⟨by repeat (first | (with_reducible first | exact HI144.out | apply IsS23.alloc | apply IsS23.drewN | apply IsS23.drew | apply IsS23.set_0 | apply IsS23.set_1 | apply IsS23.set_2 | refine IsS23.far ?_ NB144_148.out _ | refine IsS23.far ?_ NB144_152.out _ | refine IsS23.far ?_ NB144_139.out _) | exact HI144.out)⟩, ⟨by repeat (first | (with_reducible first | exact HB.out | apply below_alloc | apply pw_below_drewN | apply below_drew1 | refine below_set ?_ (IsS23.ge HI139.out) | refine below_set ?_ (IsS23.ge HI144.out) | refine below_set ?_ GE148.out | refine below_set ?_ GE152.out) | exact HB.out)⟩⟩
   ·rw [if_neg c31] at H
    have c31b0 : (!(t153 == t149) || (!(t154 == t150) || (!(t155 == t151)))) = false := by simpa using c31
    clear c31
    (first | rw [c31b0] | (simp only [i64_w, i32_w]; rw [c31b0]) | skip)
    replace H := Option.bind_eq_some_iff.mp H
    obtain ⟨t156, A350, H⟩ := H
    replace H : ((wapentakeref17_Right.f t145 t146 t147).bind fun t157 => (wapentakelaw17_BucketPlays.j0 k l3 (t156 != t157) a0_0 a0_1 a0_2 t141 t142 t143 t145 t146 t147 t149 t150 t151)) = some r := H
    have A35 := Aside0.mk A350
    clear A350
    replace H := Option.bind_eq_some_iff.mp H
    obtain ⟨t157, A360, H⟩ := H
    replace H : (wapentakelaw17_BucketPlays.j0 k l3 (t156 != t157) a0_0 a0_1 a0_2 t141 t142 t143 t145 t146 t147 t149 t150 t151) = some r := H
    have A36 := Aside0.mk A360
    clear A360
    have H' := Aside0.mk H
    clear H
    try go_wp2
    have n0_ : Aside0 ((((w25.setCell ⟨gb152, 0, none⟩ (.int .i64 t149)).setCell ⟨gb152, 1, none⟩ (.int .i64 t150)).setCell ⟨gb152, 2, none⟩ (.int .i64 t151)).heap[gb148]? = some (.cells #[.int .i64 t145, .int .i64 t146, .int .i64 t147] 27 (0, 0))) := ⟨by (with_reducible repeat (first | refine blk_drewN ?_ _ | refine blk_drew ?_ | refine blk_alloc ?_ _)); refine blk_far ?_ NB148_152.out _; (with_reducible repeat (first | refine blk_drewN ?_ _ | refine blk_drew ?_ | refine blk_alloc ?_ _)); refine blk_far ?_ NB148_152.out _; (with_reducible repeat (first | refine blk_drewN ?_ _ | refine blk_drew ?_ | refine blk_alloc ?_ _)); refine blk_far ?_ NB148_152.out _; (with_reducible repeat (first | refine blk_drewN ?_ _ | refine blk_drew ?_ | refine blk_alloc ?_ _)); exact BK148.out⟩
    have n1_ : Aside0 ((((w25.setCell ⟨gb152, 0, none⟩ (.int .i64 t149)).setCell ⟨gb152, 1, none⟩ (.int .i64 t150)).setCell ⟨gb152, 2, none⟩ (.int .i64 t151)).heap[gb152]? = some (.cells #[.int .i64 t149, .int .i64 t150, .int .i64 t151] 27 (0, 0))) := ⟨by (with_reducible repeat (first | refine blk_drewN ?_ _ | refine blk_drew ?_ | refine blk_alloc ?_ _)); refine blk_put (cs := #[.int .i64 t149, .int .i64 t150, .int .i64 0]) ?_ 2 _ rfl; (with_reducible repeat (first | refine blk_drewN ?_ _ | refine blk_drew ?_ | refine blk_alloc ?_ _)); refine blk_put (cs := #[.int .i64 t149, .int .i64 0, .int .i64 0]) ?_ 1 _ rfl; (with_reducible repeat (first | refine blk_drewN ?_ _ | refine blk_drew ?_ | refine blk_alloc ?_ _)); refine blk_put (cs := #[.int .i64 0, .int .i64 0, .int .i64 0]) ?_ 0 _ rfl; (with_reducible repeat (first | refine blk_drewN ?_ _ | refine blk_drew ?_ | refine blk_alloc ?_ _)); exact BK152.out⟩
    have n2_ : Aside0 (IsS23 w (((w25.setCell ⟨gb152, 0, none⟩ (.int .i64 t149)).setCell ⟨gb152, 1, none⟩ (.int .i64 t150)).setCell ⟨gb152, 2, none⟩ (.int .i64 t151)) gb139 a0_0 a0_1 a0_2) := ⟨by repeat (first | (with_reducible first | exact HI139.out | apply IsS23.alloc | apply IsS23.drewN | apply IsS23.drew | apply IsS23.set_0 | apply IsS23.set_1 | apply IsS23.set_2 | refine IsS23.far ?_ NB139_148.out _ | refine IsS23.far ?_ NB139_152.out _ | refine IsS23.far ?_ NB139_144.out _) | exact HI139.out)⟩
    have n3_ : Aside0 (IsS23 w (((w25.setCell ⟨gb152, 0, none⟩ (.int .i64 t149)).setCell ⟨gb152, 1, none⟩ (.int .i64 t150)).setCell ⟨gb152, 2, none⟩ (.int .i64 t151)) gb144 t141 t142 t143) := ⟨by repeat (first | (with_reducible first | exact HI144.out | apply IsS23.alloc | apply IsS23.drewN | apply IsS23.drew | apply IsS23.set_0 | apply IsS23.set_1 | apply IsS23.set_2 | refine IsS23.far ?_ NB144_148.out _ | refine IsS23.far ?_ NB144_152.out _ | refine IsS23.far ?_ NB144_139.out _) | exact HI144.out)⟩
    have n4_ : Aside0 (Below w.heap.size w (((w25.setCell ⟨gb152, 0, none⟩ (.int .i64 t149)).setCell ⟨gb152, 1, none⟩ (.int .i64 t150)).setCell ⟨gb152, 2, none⟩ (.int .i64 t151))) := ⟨by repeat (first | (with_reducible first | exact HB.out | apply below_alloc | apply pw_below_drewN | apply below_drew1 | refine below_set ?_ (IsS23.ge HI139.out) | refine below_set ?_ (IsS23.ge HI144.out) | refine below_set ?_ GE148.out | refine below_set ?_ GE152.out) | exact HB.out)⟩
    (try clear BK148)
    (try clear BK152)
    (try clear HI139)
    (try clear HI144)
    (try clear HB)
    generalize (((w25.setCell ⟨gb152, 0, none⟩ (.int .i64 t149)).setCell ⟨gb152, 1, none⟩ (.int .i64 t150)).setCell ⟨gb152, 2, none⟩ (.int .i64 t151)) = w37 at n0_ n1_ n2_ n3_ n4_ ⊢
    have BK148 := n0_
    have BK152 := n1_
    have HI139 := n2_
    have HI144 := n3_
    have HB := n4_
    clear n0_ n1_ n2_ n3_ n4_
    have n0_ := Aside0.mk (blk_drew BK148.out)
    have n1_ := Aside0.mk (blk_drew BK152.out)
    have n2_ := Aside0.mk (IsS23.drew HI139.out)
    have n3_ := Aside0.mk (IsS23.drew HI144.out)
    have n4_ := Aside0.mk (below_drew1 HB.out)
    clear BK148
    clear BK152
    clear HI139
    clear HI144
    clear HB
    have BK148 := n0_
    have BK152 := n1_
    have HI139 := n2_
    have HI144 := n3_
    have HB := n4_
    clear n0_ n1_ n2_ n3_ n4_
    refine start_ (n := 11) (S := fun w' => w'.cell? ⟨gb144, 0, none⟩ = some (.int .i64 t141) ∧ w'.cell? ⟨gb144, 1, none⟩ = some (.int .i64 t142) ∧ w'.cell? ⟨gb144, 2, none⟩ = some (.int .i64 t143) ∧ w'.cell? ⟨gb152, 0, none⟩ = some (.int .i64 t149) ∧ w'.cell? ⟨gb152, 1, none⟩ = some (.int .i64 t150) ∧ w'.cell? ⟨gb152, 2, none⟩ = some (.int .i64 t151) ∧ w'.cell? ⟨gb139, 0, none⟩ = some (.int .i64 a0_0) ∧ w'.cell? ⟨gb139, 1, none⟩ = some (.int .i64 a0_1) ∧ w'.cell? ⟨gb139, 2, none⟩ = some (.int .i64 a0_2) ∧ w'.cell? ⟨gb148, 0, none⟩ = some (.int .i64 t145) ∧ w'.cell? ⟨gb148, 1, none⟩ = some (.int .i64 t146) ∧ w'.cell? ⟨gb148, 2, none⟩ = some (.int .i64 t147)) (ds := []) #[false, false, false, false, false, false, false, false, false, false, false] (by kernel_rfl) rfl rfl ⟨(blk_cell HI144.out.1 0).trans rfl, (blk_cell HI144.out.1 1).trans rfl, (blk_cell HI144.out.1 2).trans rfl, (blk_cell BK152.out 0).trans rfl, (blk_cell BK152.out 1).trans rfl, (blk_cell BK152.out 2).trans rfl, (blk_cell HI139.out.1 0).trans rfl, (blk_cell HI139.out.1 1).trans rfl, (blk_cell HI139.out.1 2).trans rfl, (blk_cell BK148.out 0).trans rfl, (blk_cell BK148.out 1).trans rfl, (blk_cell BK148.out 2).trans rfl⟩ (fun hHeld => ?_); refine with_tabW wapentakelaw17_BucketPlays.tab6 wapentakelaw17_BucketPlays.bits6 (fun HT_ HW_ => ?_)
    generalize w37.drew = w38 at BK148 BK152 HI139 HI144 HB hHeld ⊢
    refine take_ (i := 0) (N := some 29) (v := ?_) (a' := ?_) (bq_ 11 1) rfl rfl (take_ofW HT_.out HW_.out (by kernel_rfl)) (fun _ _ _ h => h) (Or.inl ⟨by rfl, ?_⟩) hHeld ?_ ?_
    rotate_left
    ·rintro w' ⟨s0, s1, s2, s3, s4, s5, s6, s7, s8, s9, s10, s11⟩
     go_simp
     with_reducible rfl
    rotate_left
    ·simp only [Act.put, zA, zB, zC, i64_w, i32_w]
     rfl
    refine take_ (i := 2) (N := some 31) (v := ?_) (a' := ?_) (bq_ 11 5) rfl rfl (take_ofW HT_.out HW_.out (by kernel_rfl)) (fun _ _ _ h => h) (Or.inl ⟨by rfl, ?_⟩) hHeld ?_ ?_
    rotate_left
    ·rintro w' ⟨s0, s1, s2, s3, s4, s5, s6, s7, s8, s9, s10, s11⟩
     go_simp
     with_reducible rfl
    rotate_left
    ·simp only [Act.put, zA, zB, zC, i64_w, i32_w]
     rfl
    refine one_ (i := 1) (N := some 30) (bq_ 11 7) rfl rfl (one_of HT_.out (by kernel_rfl)) (by decide) (fun K hK => ?_)
    refine goes_ Try.func11 (by kernel_rfl) rfl #[.agg #[.int .i64 t141, .int .i64 t142, .int .i64 t143]] (by rfl) rfl rfl (by (try simp only [List.map_toArray, List.map_cons, List.map_nil]); first | done | rfl | (simp only [List.length_drop, List.length_take]; rfl)) ?_
    with_reducible refine (wapentakelaw17_given.calls t141 t142 t143 t153 t154 t155 _ A30.out).mono ?_
    rintro e w39 ⟨rfl, hb⟩
    refine ⟨_, rfl, ?_⟩
    have n0_ := Aside0.mk (IsS23.below (by repeat (first | (with_reducible first | exact HI139.out | apply IsS23.alloc | apply IsS23.drewN | apply IsS23.drew | apply IsS23.set_0 | apply IsS23.set_1 | apply IsS23.set_2 | refine IsS23.far ?_ NB139_148.out _ | refine IsS23.far ?_ NB139_152.out _ | refine IsS23.far ?_ NB139_144.out _) | exact HI139.out)) hb)
    have n1_ := Aside0.mk (IsS23.below (by repeat (first | (with_reducible first | exact HI144.out | apply IsS23.alloc | apply IsS23.drewN | apply IsS23.drew | apply IsS23.set_0 | apply IsS23.set_1 | apply IsS23.set_2 | refine IsS23.far ?_ NB144_148.out _ | refine IsS23.far ?_ NB144_152.out _ | refine IsS23.far ?_ NB144_139.out _) | exact HI144.out)) hb)
    have n2_ := Aside0.mk (blk_below (g := gb148) (o := .cells #[.int .i64 t145, .int .i64 t146, .int .i64 t147] 27 (0, 0)) (by (with_reducible repeat (first | refine blk_drewN ?_ _ | refine blk_drew ?_ | refine blk_alloc ?_ _)); exact BK148.out) hb)
    have n3_ := Aside0.mk (blk_below (g := gb152) (o := .cells #[.int .i64 t149, .int .i64 t150, .int .i64 t151] 27 (0, 0)) (by (with_reducible repeat (first | refine blk_drewN ?_ _ | refine blk_drew ?_ | refine blk_alloc ?_ _)); exact BK152.out) hb)
    have n4_ := Aside0.mk (below_step (by repeat (first | (with_reducible first | exact HB.out | apply below_alloc | apply pw_below_drewN | apply below_drew1 | refine below_set ?_ (IsS23.ge HI139.out) | refine below_set ?_ (IsS23.ge HI144.out) | refine below_set ?_ GE148.out | refine below_set ?_ GE152.out) | exact HB.out)) hb)
    clear HI139
    clear HI144
    clear BK148
    clear BK152
    clear HB
    have HI139 := n0_
    have HI144 := n1_
    have BK148 := n2_
    have BK152 := n3_
    have HB := n4_
    clear n0_ n1_ n2_ n3_ n4_
    (try clear hb)
    (try clear hb2)
    (try clear hk)
    (try clear hi)
    refine hK.out _ _ ⟨(blk_cell HI144.out.1 0).trans rfl, (blk_cell HI144.out.1 1).trans rfl, (blk_cell HI144.out.1 2).trans rfl, (blk_cell BK152.out 0).trans rfl, (blk_cell BK152.out 1).trans rfl, (blk_cell BK152.out 2).trans rfl, (blk_cell HI139.out.1 0).trans rfl, (blk_cell HI139.out.1 1).trans rfl, (blk_cell HI139.out.1 2).trans rfl, (blk_cell BK148.out 0).trans rfl, (blk_cell BK148.out 1).trans rfl, (blk_cell BK148.out 2).trans rfl⟩ (fun hHeld => ?_)
    clear hK K
    refine norm_ (a' := ?_) ?_ ?_
    rotate_left
    ·show Act.put _ (some 30) _ = _
     simp only [Act.put, zA, zB, zC, i64_w, i32_w]
     rfl
    refine pure_ (i := 3) (N := some 32) (v := ?_) (a' := ?_) (bq_ 11 15) rfl rfl (any_of HT_.out (by kernel_rfl)) (fun _ _ _ h => h) (Or.inl ⟨by rfl, ?_⟩) ?_ ?_
    rotate_left
    ·intro w'
     go_simp
     with_reducible rfl
    rotate_left
    ·simp only [Act.put, zA, zB, zC, i64_w, i32_w]
     rfl
    refine pure_ (i := 4) (N := some 33) (v := ?_) (a' := ?_) (bq_ 11 31) rfl rfl (any_of HT_.out (by kernel_rfl)) (fun _ _ _ h => h) (Or.inl ⟨by rfl, ?_⟩) ?_ ?_
    rotate_left
    ·intro w'
     go_simp
     with_reducible rfl
    rotate_left
    ·simp only [Act.put, zA, zB, zC, i64_w, i32_w]
     rfl
    refine take_ (i := 5) (N := some 34) (v := ?_) (a' := ?_) (bq_ 11 63) rfl rfl (take_ofW HT_.out HW_.out (by kernel_rfl)) (fun _ _ _ h => h) (Or.inl ⟨by rfl, ?_⟩) hHeld ?_ ?_
    rotate_left
    ·rintro w' ⟨s0, s1, s2, s3, s4, s5, s6, s7, s8, s9, s10, s11⟩
     go_simp
     with_reducible rfl
    rotate_left
    ·simp only [Act.put, zA, zB, zC, i64_w, i32_w]
     rfl
    refine take_ (i := 7) (N := some 36) (v := ?_) (a' := ?_) (bq_ 11 191) rfl rfl (take_ofW HT_.out HW_.out (by kernel_rfl)) (fun _ _ _ h => h) (Or.inl ⟨by rfl, ?_⟩) hHeld ?_ ?_
    rotate_left
    ·rintro w' ⟨s0, s1, s2, s3, s4, s5, s6, s7, s8, s9, s10, s11⟩
     go_simp
     with_reducible rfl
    rotate_left
    ·simp only [Act.put, zA, zB, zC, i64_w, i32_w]
     rfl
    refine one_ (i := 6) (N := some 35) (bq_ 11 255) rfl rfl (one_of HT_.out (by kernel_rfl)) (by decide) (fun K hK => ?_)
    refine goes_ Try.func13 (by kernel_rfl) rfl #[.agg #[.int .i64 a0_0, .int .i64 a0_1, .int .i64 a0_2]] (by rfl) rfl rfl (by (try simp only [List.map_toArray, List.map_cons, List.map_nil]); first | done | rfl | (simp only [List.length_drop, List.length_take]; rfl)) ?_
    with_reducible refine (bucket_Bucket_Right.calls a0_0 a0_1 a0_2 t156 _ A35.out).mono ?_
    rintro e w40 ⟨rfl, hb⟩
    refine ⟨_, rfl, ?_⟩
    have n0_ := Aside0.mk (IsS23.below (by repeat (first | (with_reducible first | exact HI139.out | apply IsS23.alloc | apply IsS23.drewN | apply IsS23.drew | apply IsS23.set_0 | apply IsS23.set_1 | apply IsS23.set_2 | refine IsS23.far ?_ NB139_148.out _ | refine IsS23.far ?_ NB139_152.out _ | refine IsS23.far ?_ NB139_144.out _) | exact HI139.out)) hb)
    have n1_ := Aside0.mk (IsS23.below (by repeat (first | (with_reducible first | exact HI144.out | apply IsS23.alloc | apply IsS23.drewN | apply IsS23.drew | apply IsS23.set_0 | apply IsS23.set_1 | apply IsS23.set_2 | refine IsS23.far ?_ NB144_148.out _ | refine IsS23.far ?_ NB144_152.out _ | refine IsS23.far ?_ NB144_139.out _) | exact HI144.out)) hb)
    have n2_ := Aside0.mk (blk_below (g := gb148) (o := .cells #[.int .i64 t145, .int .i64 t146, .int .i64 t147] 27 (0, 0)) (by (with_reducible repeat (first | refine blk_drewN ?_ _ | refine blk_drew ?_ | refine blk_alloc ?_ _)); exact BK148.out) hb)
    have n3_ := Aside0.mk (blk_below (g := gb152) (o := .cells #[.int .i64 t149, .int .i64 t150, .int .i64 t151] 27 (0, 0)) (by (with_reducible repeat (first | refine blk_drewN ?_ _ | refine blk_drew ?_ | refine blk_alloc ?_ _)); exact BK152.out) hb)
    have n4_ := Aside0.mk (below_step (by repeat (first | (with_reducible first | exact HB.out | apply below_alloc | apply pw_below_drewN | apply below_drew1 | refine below_set ?_ (IsS23.ge HI139.out) | refine below_set ?_ (IsS23.ge HI144.out) | refine below_set ?_ GE148.out | refine below_set ?_ GE152.out) | exact HB.out)) hb)
    clear HI139
    clear HI144
    clear BK148
    clear BK152
    clear HB
    have HI139 := n0_
    have HI144 := n1_
    have BK148 := n2_
    have BK152 := n3_
    have HB := n4_
    clear n0_ n1_ n2_ n3_ n4_
    (try clear hb)
    (try clear hb2)
    (try clear hk)
    (try clear hi)
    refine hK.out _ _ ⟨(blk_cell HI144.out.1 0).trans rfl, (blk_cell HI144.out.1 1).trans rfl, (blk_cell HI144.out.1 2).trans rfl, (blk_cell BK152.out 0).trans rfl, (blk_cell BK152.out 1).trans rfl, (blk_cell BK152.out 2).trans rfl, (blk_cell HI139.out.1 0).trans rfl, (blk_cell HI139.out.1 1).trans rfl, (blk_cell HI139.out.1 2).trans rfl, (blk_cell BK148.out 0).trans rfl, (blk_cell BK148.out 1).trans rfl, (blk_cell BK148.out 2).trans rfl⟩ (fun hHeld => ?_)
    clear hK K
    refine norm_ (a' := ?_) ?_ ?_
    rotate_left
    ·show Act.put _ (some 35) _ = _
     simp only [Act.put, zA, zB, zC, i64_w, i32_w]
     rfl
    refine one_ (i := 8) (N := some 37) (bq_ 11 511) rfl rfl (one_of HT_.out (by kernel_rfl)) (by decide) (fun K hK => ?_)
    refine goes_ Try.func14 (by kernel_rfl) rfl #[.agg #[.int .i64 t145, .int .i64 t146, .int .i64 t147]] (by rfl) rfl rfl (by (try simp only [List.map_toArray, List.map_cons, List.map_nil]); first | done | rfl | (simp only [List.length_drop, List.length_take]; rfl)) ?_
    with_reducible refine (wapentakeref17_Right.calls t145 t146 t147 t157 _ A36.out).mono ?_
    rintro e w41 ⟨rfl, hb⟩
    refine ⟨_, rfl, ?_⟩
    have n0_ := Aside0.mk (IsS23.below (by repeat (first | (with_reducible first | exact HI139.out | apply IsS23.alloc | apply IsS23.drewN | apply IsS23.drew | apply IsS23.set_0 | apply IsS23.set_1 | apply IsS23.set_2 | refine IsS23.far ?_ NB139_148.out _ | refine IsS23.far ?_ NB139_152.out _ | refine IsS23.far ?_ NB139_144.out _) | exact HI139.out)) hb)
    have n1_ := Aside0.mk (IsS23.below (by repeat (first | (with_reducible first | exact HI144.out | apply IsS23.alloc | apply IsS23.drewN | apply IsS23.drew | apply IsS23.set_0 | apply IsS23.set_1 | apply IsS23.set_2 | refine IsS23.far ?_ NB144_148.out _ | refine IsS23.far ?_ NB144_152.out _ | refine IsS23.far ?_ NB144_139.out _) | exact HI144.out)) hb)
    have n2_ := Aside0.mk (blk_below (g := gb148) (o := .cells #[.int .i64 t145, .int .i64 t146, .int .i64 t147] 27 (0, 0)) (by (with_reducible repeat (first | refine blk_drewN ?_ _ | refine blk_drew ?_ | refine blk_alloc ?_ _)); exact BK148.out) hb)
    have n3_ := Aside0.mk (blk_below (g := gb152) (o := .cells #[.int .i64 t149, .int .i64 t150, .int .i64 t151] 27 (0, 0)) (by (with_reducible repeat (first | refine blk_drewN ?_ _ | refine blk_drew ?_ | refine blk_alloc ?_ _)); exact BK152.out) hb)
    have n4_ := Aside0.mk (below_step (by repeat (first | (with_reducible first | exact HB.out | apply below_alloc | apply pw_below_drewN | apply below_drew1 | refine below_set ?_ (IsS23.ge HI139.out) | refine below_set ?_ (IsS23.ge HI144.out) | refine below_set ?_ GE148.out | refine below_set ?_ GE152.out) | exact HB.out)) hb)
    clear HI139
    clear HI144
    clear BK148
    clear BK152
    clear HB
    have HI139 := n0_
    have HI144 := n1_
    have BK148 := n2_
    have BK152 := n3_
    have HB := n4_
    clear n0_ n1_ n2_ n3_ n4_
    (try clear hb)
    (try clear hb2)
    (try clear hk)
    (try clear hi)
    refine hK.out _ _ ⟨(blk_cell HI144.out.1 0).trans rfl, (blk_cell HI144.out.1 1).trans rfl, (blk_cell HI144.out.1 2).trans rfl, (blk_cell BK152.out 0).trans rfl, (blk_cell BK152.out 1).trans rfl, (blk_cell BK152.out 2).trans rfl, (blk_cell HI139.out.1 0).trans rfl, (blk_cell HI139.out.1 1).trans rfl, (blk_cell HI139.out.1 2).trans rfl, (blk_cell BK148.out 0).trans rfl, (blk_cell BK148.out 1).trans rfl, (blk_cell BK148.out 2).trans rfl⟩ (fun hHeld => ?_)
    clear hK K
    refine norm_ (a' := ?_) ?_ ?_
    rotate_left
    ·show Act.put _ (some 37) _ = _
     simp only [Act.put, zA, zB, zC, i64_w, i32_w]
     rfl
    refine pure_ (i := 9) (N := some 38) (v := ?_) (a' := ?_) (bq_ 11 1023) rfl rfl (any_of HT_.out (by kernel_rfl)) (fun _ _ _ h => h) (Or.inl ⟨by rfl, ?_⟩) ?_ ?_
    rotate_left
    ·intro w'
     go_simp
     with_reducible rfl
    rotate_left
    ·simp only [Act.put, zA, zB, zC, i64_w, i32_w]
     rfl
    refine pure_ (i := 10) (N := some 39) (v := ?_) (a' := ?_) (bq_ 11 2047) rfl rfl (any_of HT_.out (by kernel_rfl)) (fun _ _ _ h => h) (Or.inl ⟨by rfl, ?_⟩) ?_ ?_
    rotate_left
    ·intro w'
     go_simp
     with_reducible rfl
    rotate_left
    ·simp only [Act.put, zA, zB, zC, i64_w, i32_w]
     rfl
    refine done_ (done_of HT_.out (by kernel_rfl)) ?_
    try go_wp2
    go_meet
    case rel => exact ⟨_, ((t156 != t157)), (by first | rfl | (simp; done) | (simp [*]; done)), H', ⟨by first | omega | exact Nat.le_refl _⟩, ⟨by (with_reducible repeat (first | refine blk_drewN ?_ _ | refine blk_drew ?_ | refine blk_alloc ?_ _)); exact BK148.out⟩, ⟨by (with_reducible repeat (first | refine blk_drewN ?_ _ | refine blk_drew ?_ | refine blk_alloc ?_ _)); exact BK152.out⟩, ⟨by repeat (first | (with_reducible first | exact HI139.out | apply IsS23.alloc | apply IsS23.drewN | apply IsS23.drew | apply IsS23.set_0 | apply IsS23.set_1 | apply IsS23.set_2 | refine IsS23.far ?_ NB139_148.out _ | refine IsS23.far ?_ NB139_152.out _ | refine IsS23.far ?_ NB139_144.out _) | exact HI139.out)⟩, ⟨by repeat (first | (with_reducible first | exact HI144.out | apply IsS23.alloc | apply IsS23.drewN | apply IsS23.drew | apply IsS23.set_0 | apply IsS23.set_1 | apply IsS23.set_2 | refine IsS23.far ?_ NB144_148.out _ | refine IsS23.far ?_ NB144_152.out _ | refine IsS23.far ?_ NB144_139.out _) | exact HI144.out)⟩, ⟨by repeat (first | (with_reducible first | exact HB.out | apply below_alloc | apply pw_below_drewN | apply below_drew1 | refine below_set ?_ (IsS23.ge HI139.out) | refine below_set ?_ (IsS23.ge HI144.out) | refine below_set ?_ GE148.out | refine below_set ?_ GE152.out) | exact HB.out)⟩⟩
  case rest =>
   clear HC12
   try clear c1
   try clear c2
   try clear p2
   try clear c3
   try clear c5
   try clear c5b0
   try clear c5b1
   try clear c9
   try clear c10
   try clear c11
   try clear c12
   try clear c13
   try clear c14
   try clear c16
   try clear c21
   try clear c22
   try clear c26
   try clear c27
   try clear c28
   try clear c31
   try clear c31b0
   try clear hcz17_0
   try clear hcz17_1
   try clear hcz17_2
   try clear hcz18_0
   try clear hcz18_1
   try clear hcz18_2
   try clear hcz23_0
   try clear hcz23_1
   try clear hcz23_2
   try clear hcz29_0
   try clear hcz29_1
   try clear hcz29_2
   try clear hfz17_0
   try clear hfz17_1
   try clear hfz17_2
   try clear hfz18_0
   try clear hfz18_1
   try clear hfz18_2
   try clear hfz23_0
   try clear hfz23_1
   try clear hfz23_2
   try clear hfz29_0
   try clear hfz29_1
   try clear hfz29_2
   obtain ⟨kq, x39_11, rfl, HA, HJ11, BK148, BK152, HI139, HI144, HB⟩ := hcut
   cases kq with
   | zero => exact absurd HA.out (by simp [wapentakelaw17_BucketPlays.j0])
   | succ kj11 =>
    have H := HA.out
    clear HA
    simp only [wapentakelaw17_BucketPlays.j0] at H
    by_cases c42 : x39_11 = true
    ·subst c42
     have H1 : (some false) = some r := by rw [if_pos rfl] at H; exact H
     clear H
     have H := H1
     clear H1
     obtain rfl := Option.some.inj H
     go_wp2
     go_ret
     exact ⟨by first | rfl | (simp [errW_none, errW_some] <;> rfl) | (simp [*, errW_none, errW_some] <;> rfl), by repeat (first | (with_reducible first | exact HB.out | apply below_alloc | apply pw_below_drewN | apply below_drew1 | refine below_set ?_ (IsS23.ge HI139.out) | refine below_set ?_ (IsS23.ge HI144.out) | refine below_set ?_ GE148.out | refine below_set ?_ GE152.out) | exact HB.out)⟩
    ·replace c42 := Bool.eq_false_iff.mpr c42
     subst c42
     have H1 : (wapentakelaw17_BucketPlays.l0 kj11 l3 0 a0_0 a0_1 a0_2 t141 t142 t143 t145 t146 t147 t149 t150 t151) = some r := by rw [if_neg (show ¬ (false = true) by decide)] at H; exact H
     clear H
     have H := H1
     clear H1
     have H' := Aside0.mk H
     clear H
     go_wp2
     go_loopg [12] kj11 (fun kq v12 w' => ∃ (x12_2 : Int) (x140000_2 : Int) (x140001_2 : Int) (x140002_2 : Int) (x145000_2 : Int) (x145001_2 : Int) (x145002_2 : Int) (x149000_2 : Int) (x149001_2 : Int) (x149002_2 : Int) (x153000_2 : Int) (x153001_2 : Int) (x153002_2 : Int), v12 = .int .i64 x12_2 ∧ Aside0 (wapentakelaw17_BucketPlays.l0 kq l3 x12_2 x140000_2 x140001_2 x140002_2 x145000_2 x145001_2 x145002_2 x149000_2 x149001_2 x149002_2 x153000_2 x153001_2 x153002_2 = some r) ∧ Aside0 (kq ≤ kj11) ∧ Aside0 (w'.heap[gb148]? = some (.cells #[.int .i64 x149000_2, .int .i64 x149001_2, .int .i64 x149002_2] 27 (0, 0))) ∧ Aside0 (w'.heap[gb152]? = some (.cells #[.int .i64 x153000_2, .int .i64 x153001_2, .int .i64 x153002_2] 27 (0, 0))) ∧ Aside0 (IsS23 w w' gb139 x140000_2 x140001_2 x140002_2) ∧ Aside0 (IsS23 w w' gb144 x145000_2 x145001_2 x145002_2) ∧ Aside0 (Below w.heap.size w w'))
     case atStart => exact ⟨(0), (a0_0), (a0_1), (a0_2), (t141), (t142), (t143), (t145), (t146), (t147), (t149), (t150), (t151), (by first | rfl | (simp; done) | (simp [*]; done)), H', ⟨Nat.le_refl _⟩, ⟨by (with_reducible repeat (first | refine blk_drewN ?_ _ | refine blk_drew ?_ | refine blk_alloc ?_ _)); exact BK148.out⟩, ⟨by (with_reducible repeat (first | refine blk_drewN ?_ _ | refine blk_drew ?_ | refine blk_alloc ?_ _)); exact BK152.out⟩, ⟨by repeat (first | (with_reducible first | exact HI139.out | apply IsS23.alloc | apply IsS23.drewN | apply IsS23.drew | apply IsS23.set_0 | apply IsS23.set_1 | apply IsS23.set_2 | refine IsS23.far ?_ NB139_148.out _ | refine IsS23.far ?_ NB139_152.out _ | refine IsS23.far ?_ NB139_144.out _) | exact HI139.out)⟩, ⟨by repeat (first | (with_reducible first | exact HI144.out | apply IsS23.alloc | apply IsS23.drewN | apply IsS23.drew | apply IsS23.set_0 | apply IsS23.set_1 | apply IsS23.set_2 | refine IsS23.far ?_ NB144_148.out _ | refine IsS23.far ?_ NB144_152.out _ | refine IsS23.far ?_ NB144_139.out _) | exact HI144.out)⟩, ⟨by repeat (first | (with_reducible first | exact HB.out | apply below_alloc | apply pw_below_drewN | apply below_drew1 | refine below_set ?_ (IsS23.ge HI139.out) | refine below_set ?_ (IsS23.ge HI144.out) | refine below_set ?_ GE148.out | refine below_set ?_ GE152.out) | exact HB.out)⟩⟩
     case round =>
      clear H'
      try clear c1
      try clear c2
      try clear p2
      try clear c3
      try clear c4
      try clear c5
      try clear c5b0
      try clear c5b1
      try clear c9
      try clear c10
      try clear c11
      try clear c12
      try clear c13
      try clear c14
      try clear c16
      try clear c21
      try clear c22
      try clear c26
      try clear c27
      try clear c28
      try clear c31
      try clear c31b0
      try clear c42
      try clear hcz17_0
      try clear hcz17_1
      try clear hcz17_2
      try clear hcz18_0
      try clear hcz18_1
      try clear hcz18_2
      try clear hcz23_0
      try clear hcz23_1
      try clear hcz23_2
      try clear hcz29_0
      try clear hcz29_1
      try clear hcz29_2
      try clear hfz17_0
      try clear hfz17_1
      try clear hfz17_2
      try clear hfz18_0
      try clear hfz18_1
      try clear hfz18_2
      try clear hfz23_0
      try clear hfz23_1
      try clear hfz23_2
      try clear hfz29_0
      try clear hfz29_1
      try clear hfz29_2
      try clear p2
      obtain ⟨x12_2, x140000_2, x140001_2, x140002_2, x145000_2, x145001_2, x145002_2, x149000_2, x149001_2, x149002_2, x153000_2, x153001_2, x153002_2, rfl, HA, HK2, BK148, BK152, HI139, HI144, HB⟩ := hrel
      cases gk with
      | zero => exact absurd HA.out (by simp [wapentakelaw17_BucketPlays.l0])
      | succ k2 =>
       have H := HA.out
       clear HA
       simp only [wapentakelaw17_BucketPlays.l0] at H
       by_cases c43 : x12_2 < (l3.length : Int)
       ·rw [if_pos c43] at H
        have c43b0 : decide (x12_2 < (l3.length : Int)) = true := decide_eq_true c43
        clear c43
        by_cases c44 : 0 ≤ x12_2
        ·rw [if_pos c44] at H
         have c44b0 : decide (0 ≤ x12_2) = true := decide_eq_true c44
         clear c44
         have HC45 := Aside0.mk H
         clear H
         have p158 : 0 ≤ (x12_2 : Int) := of_decide_eq_true (by first | (with_reducible assumption) | assumption)
         have q158 : x12_2 < (l3.length : Int) := of_decide_eq_true (by first | (with_reducible assumption) | assumption)
         obtain ⟨ad158, e158, hx158_0⟩ := Kd.at_bool HR3.out x12_2 p158 q158
         cases e158
         replace hx158_0 := (HB.out.cell (World.block_lt_of_cell? w _ hx158_0)).trans hx158_0
         replace p158 := eq_true p158
         replace q158 := eq_true q158
         go_upto_if 49 with (fail)
         go_cut [13, 14, 15, 16] (fun v13 v14 v15 v16 wc => ∃ (kq : Nat) (x13_44 : Bool) (x14_44 : Bool) (x15_44 : Bool) (x16_44 : Bool) (x140000_44 : Int) (x140001_44 : Int) (x140002_44 : Int) (x145000_44 : Int) (x145001_44 : Int) (x145002_44 : Int) (x149000_44 : Int) (x149001_44 : Int) (x149002_44 : Int) (x153000_44 : Int) (x153001_44 : Int) (x153002_44 : Int), v13 = .bool x13_44 ∧ v14 = .bool x14_44 ∧ v15 = .bool x15_44 ∧ v16 = .bool x16_44 ∧ Aside0 (wapentakelaw17_BucketPlays.j2 kq l3 x12_2 x13_44 x14_44 x15_44 x16_44 x140000_44 x140001_44 x140002_44 x145000_44 x145001_44 x145002_44 x149000_44 x149001_44 x149002_44 x153000_44 x153001_44 x153002_44 = some r) ∧ Aside0 (kq ≤ k2) ∧ Aside0 (wc.heap[gb148]? = some (.cells #[.int .i64 x149000_44, .int .i64 x149001_44, .int .i64 x149002_44] 27 (0, 0))) ∧ Aside0 (wc.heap[gb152]? = some (.cells #[.int .i64 x153000_44, .int .i64 x153001_44, .int .i64 x153002_44] 27 (0, 0))) ∧ Aside0 (IsS23 w wc gb139 x140000_44 x140001_44 x140002_44) ∧ Aside0 (IsS23 w wc gb144 x145000_44 x145001_44 x145002_44) ∧ Aside0 (Below w.heap.size w wc))
         case first =>
          have H := HC45.out
          clear HC45
          obtain ⟨bq46, hbq46⟩ : ∃ b_ : Bool, b_ = (rdOf false l3 x12_2) := ⟨_, rfl⟩
          replace H : (if bq46 = true then ((bucket_Bucket_Tick.f x140000_2 x140001_2 x140002_2).bind fun bt159 => ((bucket_Bucket_Tick.f x145000_2 x145001_2 x145002_2).bind fun bt162 => ((wapentakeref17_Tick.f x149000_2 x149001_2 x149002_2).bind fun bt165 => ((wapentakeref17_Tick.f x153000_2 x153001_2 x153002_2).bind fun bt168 => (wapentakelaw17_BucketPlays.j2 k2 l3 x12_2 false false false false bt159.1 bt159.2.1 bt159.2.2 bt162.1 bt162.2.1 bt162.2.2 bt165.1 bt165.2.1 bt165.2.2 bt168.1 bt168.2.1 bt168.2.2))))) else ((bucket_Bucket_Take.f x140000_2 x140001_2 x140002_2).bind fun bt171 => ((bucket_Bucket_Take.f x145000_2 x145001_2 x145002_2).bind fun bt175 => ((wapentakeref17_Take.f x149000_2 x149001_2 x149002_2).bind fun bt179 => ((wapentakeref17_Take.f x153000_2 x153001_2 x153002_2).bind fun bt183 => (wapentakelaw17_BucketPlays.j2 k2 l3 x12_2 bt171.1 bt175.1 bt179.2.2.2 bt183.2.2.2 bt171.2.1 bt171.2.2.1 bt171.2.2.2 bt175.2.1 bt175.2.2.1 bt175.2.2.2 bt179.1 bt179.2.1 bt179.2.2.1 bt183.1 bt183.2.1 bt183.2.2.1)))))) = some r := by rw [← hbq46] at H; exact H
          have Nbq46 := Aside0.mk hbq46
          clear hbq46
          (try rw [← Nbq46.out])
          by_cases c47 : bq46 = true
          ·subst c47
           have H1 : ((bucket_Bucket_Tick.f x140000_2 x140001_2 x140002_2).bind fun bt159 => ((bucket_Bucket_Tick.f x145000_2 x145001_2 x145002_2).bind fun bt162 => ((wapentakeref17_Tick.f x149000_2 x149001_2 x149002_2).bind fun bt165 => ((wapentakeref17_Tick.f x153000_2 x153001_2 x153002_2).bind fun bt168 => (wapentakelaw17_BucketPlays.j2 k2 l3 x12_2 false false false false bt159.1 bt159.2.1 bt159.2.2 bt162.1 bt162.2.1 bt162.2.2 bt165.1 bt165.2.1 bt165.2.2 bt168.1 bt168.2.1 bt168.2.2))))) = some r := by rw [if_pos rfl] at H; exact H
           clear H
           have H := H1
           clear H1
           replace H := Option.bind_eq_some_iff.mp H
           obtain ⟨⟨t159, t160, t161⟩, A480, H⟩ := H
           replace H : ((bucket_Bucket_Tick.f x145000_2 x145001_2 x145002_2).bind fun bt162 => ((wapentakeref17_Tick.f x149000_2 x149001_2 x149002_2).bind fun bt165 => ((wapentakeref17_Tick.f x153000_2 x153001_2 x153002_2).bind fun bt168 => (wapentakelaw17_BucketPlays.j2 k2 l3 x12_2 false false false false t159 t160 t161 bt162.1 bt162.2.1 bt162.2.2 bt165.1 bt165.2.1 bt165.2.2 bt168.1 bt168.2.1 bt168.2.2)))) = some r := H
           have A48 := Aside0.mk A480
           clear A480
           replace H := Option.bind_eq_some_iff.mp H
           obtain ⟨⟨t162, t163, t164⟩, A490, H⟩ := H
           replace H : ((wapentakeref17_Tick.f x149000_2 x149001_2 x149002_2).bind fun bt165 => ((wapentakeref17_Tick.f x153000_2 x153001_2 x153002_2).bind fun bt168 => (wapentakelaw17_BucketPlays.j2 k2 l3 x12_2 false false false false t159 t160 t161 t162 t163 t164 bt165.1 bt165.2.1 bt165.2.2 bt168.1 bt168.2.1 bt168.2.2))) = some r := H
           have A49 := Aside0.mk A490
           clear A490
           replace H := Option.bind_eq_some_iff.mp H
           obtain ⟨⟨t165, t166, t167⟩, A500, H⟩ := H
           replace H : ((wapentakeref17_Tick.f x153000_2 x153001_2 x153002_2).bind fun bt168 => (wapentakelaw17_BucketPlays.j2 k2 l3 x12_2 false false false false t159 t160 t161 t162 t163 t164 t165 t166 t167 bt168.1 bt168.2.1 bt168.2.2)) = some r := H
           have A50 := Aside0.mk A500
           clear A500
           replace H := Option.bind_eq_some_iff.mp H
           obtain ⟨⟨t168, t169, t170⟩, A510, H⟩ := H
           replace H : (wapentakelaw17_BucketPlays.j2 k2 l3 x12_2 false false false false t159 t160 t161 t162 t163 t164 t165 t166 t167 t168 t169 t170) = some r := H
           have A51 := Aside0.mk A510
           clear A510
           have H' := Aside0.mk H
           clear H
           go_wp2_with (first | ((with_reducible refine gate_callee (f := 15) rfl ?_); refine goesL_ (some 50) rfl rfl Try.func15 (by kernel_rfl) rfl #[.pointer (some ⟨gb139, 0, none⟩)] rfl (by (try simp only [List.map_toArray, List.map_cons, List.map_nil]); first | done | rfl | (simp only [List.length_drop, List.length_take]; rfl)) ?_; (with_reducible refine (bucket_Bucket_Tick.calls gb139 x140000_2 x140001_2 x140002_2 t159 t160 t161 w _ ?side1 ?side2 A48.out).mono ?_); (case side1 => repeat (first | (with_reducible first | exact HI139.out | apply IsS23.alloc | apply IsS23.drewN | apply IsS23.drew | apply IsS23.set_0 | apply IsS23.set_1 | apply IsS23.set_2 | refine IsS23.far ?_ NB139_148.out _ | refine IsS23.far ?_ NB139_152.out _ | refine IsS23.far ?_ NB139_144.out _) | exact HI139.out)); (case side2 => repeat (first | (with_reducible first | exact HB.out | apply below_alloc | apply pw_below_drewN | apply below_drew1 | refine below_set ?_ (IsS23.ge HI139.out) | refine below_set ?_ (IsS23.ge HI144.out) | refine below_set ?_ GE148.out | refine below_set ?_ GE152.out) | exact HB.out)); rintro e w52 ⟨rfl, hi, hb, hk⟩; refine ⟨_, rfl, ?_⟩; have n0_ := Aside0.mk (KeepBut.blk hk (g' := gb148) (o := .cells #[.int .i64 x149000_2, .int .i64 x149001_2, .int .i64 x149002_2] 27 (0, 0)) (by (with_reducible repeat (first | refine blk_drewN ?_ _ | refine blk_drew ?_ | refine blk_alloc ?_ _)); exact BK148.out) NB148_139.out (by simp)); have n1_ := Aside0.mk (KeepBut.blk hk (g' := gb152) (o := .cells #[.int .i64 x153000_2, .int .i64 x153001_2, .int .i64 x153002_2] 27 (0, 0)) (by (with_reducible repeat (first | refine blk_drewN ?_ _ | refine blk_drew ?_ | refine blk_alloc ?_ _)); exact BK152.out) NB152_139.out (by simp)); have n2_ := Aside0.mk ((show IsS23 w _ gb144 x145000_2 x145001_2 x145002_2 from ⟨KeepBut.blk hk (show IsS23 w _ gb144 x145000_2 x145001_2 x145002_2 from by repeat (first | (with_reducible first | exact HI144.out | apply IsS23.alloc | apply IsS23.drewN | apply IsS23.drew | apply IsS23.set_0 | apply IsS23.set_1 | apply IsS23.set_2 | refine IsS23.far ?_ NB144_148.out _ | refine IsS23.far ?_ NB144_152.out _ | refine IsS23.far ?_ NB144_139.out _) | exact HI144.out)).1 NB144_139.out (by simp), (show IsS23 w _ gb144 x145000_2 x145001_2 x145002_2 from by repeat (first | (with_reducible first | exact HI144.out | apply IsS23.alloc | apply IsS23.drewN | apply IsS23.drew | apply IsS23.set_0 | apply IsS23.set_1 | apply IsS23.set_2 | refine IsS23.far ?_ NB144_148.out _ | refine IsS23.far ?_ NB144_152.out _ | refine IsS23.far ?_ NB144_139.out _) | exact HI144.out)).2⟩)); have n3_ := Aside0.mk (hb); have n4_ := Aside0.mk (hi); clear BK148; clear BK152; clear HI144; clear HB; clear HI139; have BK148 := n0_; have BK152 := n1_; have HI144 := n2_; have HB := n3_; have HI139 := n4_; clear n0_ n1_ n2_ n3_ n4_; (try clear hb); (try clear hb2); (try clear hk); (try clear hi)) | ((with_reducible refine gate_callee (f := 15) rfl ?_); refine goesL_ (some 51) rfl rfl Try.func15 (by kernel_rfl) rfl #[.pointer (some ⟨gb144, 0, none⟩)] rfl (by (try simp only [List.map_toArray, List.map_cons, List.map_nil]); first | done | rfl | (simp only [List.length_drop, List.length_take]; rfl)) ?_; (with_reducible refine (bucket_Bucket_Tick.calls gb144 x145000_2 x145001_2 x145002_2 t162 t163 t164 w _ ?side1 ?side2 A49.out).mono ?_); (case side1 => repeat (first | (with_reducible first | exact HI144.out | apply IsS23.alloc | apply IsS23.drewN | apply IsS23.drew | apply IsS23.set_0 | apply IsS23.set_1 | apply IsS23.set_2 | refine IsS23.far ?_ NB144_148.out _ | refine IsS23.far ?_ NB144_152.out _ | refine IsS23.far ?_ NB144_139.out _) | exact HI144.out)); (case side2 => repeat (first | (with_reducible first | exact HB.out | apply below_alloc | apply pw_below_drewN | apply below_drew1 | refine below_set ?_ (IsS23.ge HI139.out) | refine below_set ?_ (IsS23.ge HI144.out) | refine below_set ?_ GE148.out | refine below_set ?_ GE152.out) | exact HB.out)); rintro e w53 ⟨rfl, hi, hb, hk⟩; refine ⟨_, rfl, ?_⟩; have n0_ := Aside0.mk (KeepBut.blk hk (g' := gb148) (o := .cells #[.int .i64 x149000_2, .int .i64 x149001_2, .int .i64 x149002_2] 27 (0, 0)) (by (with_reducible repeat (first | refine blk_drewN ?_ _ | refine blk_drew ?_ | refine blk_alloc ?_ _)); exact BK148.out) NB148_144.out (by simp)); have n1_ := Aside0.mk (KeepBut.blk hk (g' := gb152) (o := .cells #[.int .i64 x153000_2, .int .i64 x153001_2, .int .i64 x153002_2] 27 (0, 0)) (by (with_reducible repeat (first | refine blk_drewN ?_ _ | refine blk_drew ?_ | refine blk_alloc ?_ _)); exact BK152.out) NB152_144.out (by simp)); have n2_ := Aside0.mk ((show IsS23 w _ gb139 t159 t160 t161 from ⟨KeepBut.blk hk (show IsS23 w _ gb139 t159 t160 t161 from by repeat (first | (with_reducible first | exact HI139.out | apply IsS23.alloc | apply IsS23.drewN | apply IsS23.drew | apply IsS23.set_0 | apply IsS23.set_1 | apply IsS23.set_2 | refine IsS23.far ?_ NB139_148.out _ | refine IsS23.far ?_ NB139_152.out _ | refine IsS23.far ?_ NB139_144.out _) | exact HI139.out)).1 NB139_144.out (by simp), (show IsS23 w _ gb139 t159 t160 t161 from by repeat (first | (with_reducible first | exact HI139.out | apply IsS23.alloc | apply IsS23.drewN | apply IsS23.drew | apply IsS23.set_0 | apply IsS23.set_1 | apply IsS23.set_2 | refine IsS23.far ?_ NB139_148.out _ | refine IsS23.far ?_ NB139_152.out _ | refine IsS23.far ?_ NB139_144.out _) | exact HI139.out)).2⟩)); have n3_ := Aside0.mk (hb); have n4_ := Aside0.mk (hi); clear BK148; clear BK152; clear HI139; clear HB; clear HI144; have BK148 := n0_; have BK152 := n1_; have HI139 := n2_; have HB := n3_; have HI144 := n4_; clear n0_ n1_ n2_ n3_ n4_; (try clear hb); (try clear hb2); (try clear hk); (try clear hi); have hnb54 := NB148_152.out; have hnc54 := NB152_148.out; have hnb55 := NB148_139.out; have hnc55 := NB139_148.out; have hnb56 := NB148_144.out; have hnc56 := NB144_148.out; have hcz57_0 : w53.cell? ⟨gb148, 0, none⟩ = some (.int .i64 x149000_2) := (blk_cell BK148.out 0).trans rfl; have hcz57_1 : w53.cell? ⟨gb148, 1, none⟩ = some (.int .i64 x149001_2) := (blk_cell BK148.out 1).trans rfl; have hcz57_2 : w53.cell? ⟨gb148, 2, none⟩ = some (.int .i64 x149002_2) := (blk_cell BK148.out 2).trans rfl; have hfz57_0 := blk_frozen BK148.out 0; have hfz57_1 := blk_frozen BK148.out 1; have hfz57_2 := blk_frozen BK148.out 2) | ((with_reducible refine gate_callee (f := 16) rfl ?_); refine goesL_ (some 53) rfl rfl Try.func16 (by kernel_rfl) rfl #[.agg #[.int .i64 x149000_2, .int .i64 x149001_2, .int .i64 x149002_2]] rfl (by (try simp only [List.map_toArray, List.map_cons, List.map_nil]); first | done | rfl | (simp only [List.length_drop, List.length_take]; rfl)) ?_; (with_reducible refine (wapentakeref17_Tick.calls x149000_2 x149001_2 x149002_2 t165 t166 t167 _ A50.out).mono ?_); rintro e w58 ⟨rfl, hb⟩; refine ⟨_, rfl, ?_⟩; have n0_ := Aside0.mk (blk_below (g := gb148) (o := .cells #[.int .i64 x149000_2, .int .i64 x149001_2, .int .i64 x149002_2] 27 (0, 0)) (by (with_reducible repeat (first | refine blk_drewN ?_ _ | refine blk_drew ?_ | refine blk_alloc ?_ _)); exact BK148.out) hb); have n1_ := Aside0.mk (blk_below (g := gb152) (o := .cells #[.int .i64 x153000_2, .int .i64 x153001_2, .int .i64 x153002_2] 27 (0, 0)) (by (with_reducible repeat (first | refine blk_drewN ?_ _ | refine blk_drew ?_ | refine blk_alloc ?_ _)); exact BK152.out) hb); have n2_ := Aside0.mk (IsS23.below (by repeat (first | (with_reducible first | exact HI139.out | apply IsS23.alloc | apply IsS23.drewN | apply IsS23.drew | apply IsS23.set_0 | apply IsS23.set_1 | apply IsS23.set_2 | refine IsS23.far ?_ NB139_148.out _ | refine IsS23.far ?_ NB139_152.out _ | refine IsS23.far ?_ NB139_144.out _) | exact HI139.out)) hb); have n3_ := Aside0.mk (IsS23.below (by repeat (first | (with_reducible first | exact HI144.out | apply IsS23.alloc | apply IsS23.drewN | apply IsS23.drew | apply IsS23.set_0 | apply IsS23.set_1 | apply IsS23.set_2 | refine IsS23.far ?_ NB144_148.out _ | refine IsS23.far ?_ NB144_152.out _ | refine IsS23.far ?_ NB144_139.out _) | exact HI144.out)) hb); have n4_ := Aside0.mk (below_step (by repeat (first | (with_reducible first | exact HB.out | apply below_alloc | apply pw_below_drewN | apply below_drew1 | refine below_set ?_ (IsS23.ge HI139.out) | refine below_set ?_ (IsS23.ge HI144.out) | refine below_set ?_ GE148.out | refine below_set ?_ GE152.out) | exact HB.out)) hb); clear BK148; clear BK152; clear HI139; clear HI144; clear HB; have BK148 := n0_; have BK152 := n1_; have HI139 := n2_; have HI144 := n3_; have HB := n4_; clear n0_ n1_ n2_ n3_ n4_; (try clear hb); (try clear hb2); (try clear hk); (try clear hi); have hcz59_0 : w58.cell? ⟨gb148, 0, none⟩ = some (.int .i64 x149000_2) := (blk_cell BK148.out 0).trans rfl; have hcz59_1 : w58.cell? ⟨gb148, 1, none⟩ = some (.int .i64 x149001_2) := (blk_cell BK148.out 1).trans rfl; have hcz59_2 : w58.cell? ⟨gb148, 2, none⟩ = some (.int .i64 x149002_2) := (blk_cell BK148.out 2).trans rfl; have hfz59_0 := blk_frozen BK148.out 0; have hfz59_1 := blk_frozen BK148.out 1; have hfz59_2 := blk_frozen BK148.out 2; have hnb60 := NB152_139.out; have hnc60 := NB139_152.out; have hnb61 := NB152_144.out; have hnc61 := NB144_152.out; have hcz62_0 : w58.cell? ⟨gb152, 0, none⟩ = some (.int .i64 x153000_2) := (blk_cell BK152.out 0).trans rfl; have hcz62_1 : w58.cell? ⟨gb152, 1, none⟩ = some (.int .i64 x153001_2) := (blk_cell BK152.out 1).trans rfl; have hcz62_2 : w58.cell? ⟨gb152, 2, none⟩ = some (.int .i64 x153002_2) := (blk_cell BK152.out 2).trans rfl; have hfz62_0 := blk_frozen BK152.out 0; have hfz62_1 := blk_frozen BK152.out 1; have hfz62_2 := blk_frozen BK152.out 2) | ((with_reducible refine gate_callee (f := 16) rfl ?_); refine goesL_ (some 55) rfl rfl Try.func16 (by kernel_rfl) rfl #[.agg #[.int .i64 x153000_2, .int .i64 x153001_2, .int .i64 x153002_2]] rfl (by (try simp only [List.map_toArray, List.map_cons, List.map_nil]); first | done | rfl | (simp only [List.length_drop, List.length_take]; rfl)) ?_; (with_reducible refine (wapentakeref17_Tick.calls x153000_2 x153001_2 x153002_2 t168 t169 t170 _ A51.out).mono ?_); rintro e w63 ⟨rfl, hb⟩; refine ⟨_, rfl, ?_⟩; have n0_ := Aside0.mk (blk_below (g := gb148) (o := .cells #[.int .i64 t165, .int .i64 t166, .int .i64 t167] 27 (0, 0)) (by (with_reducible repeat (first | refine blk_drewN ?_ _ | refine blk_drew ?_ | refine blk_alloc ?_ _)); refine blk_put (cs := #[.int .i64 t165, .int .i64 t166, .int .i64 x149002_2]) ?_ 2 _ rfl; (with_reducible repeat (first | refine blk_drewN ?_ _ | refine blk_drew ?_ | refine blk_alloc ?_ _)); refine blk_put (cs := #[.int .i64 t165, .int .i64 x149001_2, .int .i64 x149002_2]) ?_ 1 _ rfl; (with_reducible repeat (first | refine blk_drewN ?_ _ | refine blk_drew ?_ | refine blk_alloc ?_ _)); refine blk_put (cs := #[.int .i64 x149000_2, .int .i64 x149001_2, .int .i64 x149002_2]) ?_ 0 _ rfl; (with_reducible repeat (first | refine blk_drewN ?_ _ | refine blk_drew ?_ | refine blk_alloc ?_ _)); exact BK148.out) hb); have n1_ := Aside0.mk (blk_below (g := gb152) (o := .cells #[.int .i64 x153000_2, .int .i64 x153001_2, .int .i64 x153002_2] 27 (0, 0)) (by (with_reducible repeat (first | refine blk_drewN ?_ _ | refine blk_drew ?_ | refine blk_alloc ?_ _)); refine blk_far ?_ NB152_148.out _; (with_reducible repeat (first | refine blk_drewN ?_ _ | refine blk_drew ?_ | refine blk_alloc ?_ _)); refine blk_far ?_ NB152_148.out _; (with_reducible repeat (first | refine blk_drewN ?_ _ | refine blk_drew ?_ | refine blk_alloc ?_ _)); refine blk_far ?_ NB152_148.out _; (with_reducible repeat (first | refine blk_drewN ?_ _ | refine blk_drew ?_ | refine blk_alloc ?_ _)); exact BK152.out) hb); have n2_ := Aside0.mk (IsS23.below (show IsS23 w (((w58.setCell ⟨gb148, 0, none⟩ (.int .i64 t165)).setCell ⟨gb148, 1, none⟩ (.int .i64 t166)).setCell ⟨gb148, 2, none⟩ (.int .i64 t167)) gb139 t159 t160 t161 from by repeat (first | (with_reducible first | exact HI139.out | apply IsS23.alloc | apply IsS23.drewN | apply IsS23.drew | apply IsS23.set_0 | apply IsS23.set_1 | apply IsS23.set_2 | refine IsS23.far ?_ NB139_148.out _ | refine IsS23.far ?_ NB139_152.out _ | refine IsS23.far ?_ NB139_144.out _) | exact HI139.out)) hb); have n3_ := Aside0.mk (IsS23.below (show IsS23 w (((w58.setCell ⟨gb148, 0, none⟩ (.int .i64 t165)).setCell ⟨gb148, 1, none⟩ (.int .i64 t166)).setCell ⟨gb148, 2, none⟩ (.int .i64 t167)) gb144 t162 t163 t164 from by repeat (first | (with_reducible first | exact HI144.out | apply IsS23.alloc | apply IsS23.drewN | apply IsS23.drew | apply IsS23.set_0 | apply IsS23.set_1 | apply IsS23.set_2 | refine IsS23.far ?_ NB144_148.out _ | refine IsS23.far ?_ NB144_152.out _ | refine IsS23.far ?_ NB144_139.out _) | exact HI144.out)) hb); have n4_ := Aside0.mk (below_step (by repeat (first | (with_reducible first | exact HB.out | apply below_alloc | apply pw_below_drewN | apply below_drew1 | refine below_set ?_ (IsS23.ge HI139.out) | refine below_set ?_ (IsS23.ge HI144.out) | refine below_set ?_ GE148.out | refine below_set ?_ GE152.out) | exact HB.out)) hb); clear BK148; clear BK152; clear HI139; clear HI144; clear HB; have BK148 := n0_; have BK152 := n1_; have HI139 := n2_; have HI144 := n3_; have HB := n4_; clear n0_ n1_ n2_ n3_ n4_; (try clear hb); (try clear hb2); (try clear hk); (try clear hi); have hcz64_0 : w63.cell? ⟨gb152, 0, none⟩ = some (.int .i64 x153000_2) := (blk_cell BK152.out 0).trans rfl; have hcz64_1 : w63.cell? ⟨gb152, 1, none⟩ = some (.int .i64 x153001_2) := (blk_cell BK152.out 1).trans rfl; have hcz64_2 : w63.cell? ⟨gb152, 2, none⟩ = some (.int .i64 x153002_2) := (blk_cell BK152.out 2).trans rfl; have hfz64_0 := blk_frozen BK152.out 0; have hfz64_1 := blk_frozen BK152.out 1; have hfz64_2 := blk_frozen BK152.out 2))
           go_meet
           case rel => exact ⟨_, (false), (false), (false), (false), (t159), (t160), (t161), (t162), (t163), (t164), (t165), (t166), (t167), (t168), (t169), (t170), (by first | rfl | (simp; done) | (simp [*]; done)), (by first | rfl | (simp; done) | (simp [*]; done)), (by first | rfl | (simp; done) | (simp [*]; done)), (by first | rfl | (simp; done) | (simp [*]; done)), H', ⟨by have := HJ11.out; have := HK2.out; first | omega | exact Nat.le_refl _⟩, ⟨by (with_reducible repeat (first | refine blk_drewN ?_ _ | refine blk_drew ?_ | refine blk_alloc ?_ _)); refine blk_far ?_ NB148_152.out _; (with_reducible repeat (first | refine blk_drewN ?_ _ | refine blk_drew ?_ | refine blk_alloc ?_ _)); refine blk_far ?_ NB148_152.out _; (with_reducible repeat (first | refine blk_drewN ?_ _ | refine blk_drew ?_ | refine blk_alloc ?_ _)); refine blk_far ?_ NB148_152.out _; (with_reducible repeat (first | refine blk_drewN ?_ _ | refine blk_drew ?_ | refine blk_alloc ?_ _)); exact BK148.out⟩, ⟨by (with_reducible repeat (first | refine blk_drewN ?_ _ | refine blk_drew ?_ | refine blk_alloc ?_ _)); refine blk_put (cs := #[.int .i64 t168, .int .i64 t169, .int .i64 x153002_2]) ?_ 2 _ rfl; (with_reducible repeat (first | refine blk_drewN ?_ _ | refine blk_drew ?_ | refine blk_alloc ?_ _)); refine blk_put (cs := #[.int .i64 t168, .int .i64 x153001_2, .int .i64 x153002_2]) ?_ 1 _ rfl; (with_reducible repeat (first | refine blk_drewN ?_ _ | refine blk_drew ?_ | refine blk_alloc ?_ _)); refine blk_put (cs := #[.int .i64 x153000_2, .int .i64 x153001_2, .int .i64 x153002_2]) ?_ 0 _ rfl; (with_reducible repeat (first | refine blk_drewN ?_ _ | refine blk_drew ?_ | refine blk_alloc ?_ _)); exact BK152.out⟩, ⟨by repeat (first | (with_reducible first | exact HI139.out | apply IsS23.alloc | apply IsS23.drewN | apply IsS23.drew | apply IsS23.set_0 | apply IsS23.set_1 | apply IsS23.set_2 | refine IsS23.far ?_ NB139_148.out _ | refine IsS23.far ?_ NB139_152.out _ | refine IsS23.far ?_ NB139_144.out _) | exact HI139.out)⟩, ⟨by repeat (first | (with_reducible first | exact HI144.out | apply IsS23.alloc | apply IsS23.drewN | apply IsS23.drew | apply IsS23.set_0 | apply IsS23.set_1 | apply IsS23.set_2 | refine IsS23.far ?_ NB144_148.out _ | refine IsS23.far ?_ NB144_152.out _ | refine IsS23.far ?_ NB144_139.out _) | exact HI144.out)⟩, ⟨by repeat (first | (with_reducible first | exact HB.out | apply below_alloc | apply pw_below_drewN | apply below_drew1 | refine below_set ?_ (IsS23.ge HI139.out) | refine below_set ?_ (IsS23.ge HI144.out) | refine below_set ?_ GE148.out | refine below_set ?_ GE152.out) | exact HB.out)⟩⟩
          ·replace c47 := Bool.eq_false_iff.mpr c47
           subst c47
           have H1 : ((bucket_Bucket_Take.f x140000_2 x140001_2 x140002_2).bind fun bt171 => ((bucket_Bucket_Take.f x145000_2 x145001_2 x145002_2).bind fun bt175 => ((wapentakeref17_Take.f x149000_2 x149001_2 x149002_2).bind fun bt179 => ((wapentakeref17_Take.f x153000_2 x153001_2 x153002_2).bind fun bt183 => (wapentakelaw17_BucketPlays.j2 k2 l3 x12_2 bt171.1 bt175.1 bt179.2.2.2 bt183.2.2.2 bt171.2.1 bt171.2.2.1 bt171.2.2.2 bt175.2.1 bt175.2.2.1 bt175.2.2.2 bt179.1 bt179.2.1 bt179.2.2.1 bt183.1 bt183.2.1 bt183.2.2.1))))) = some r := by rw [if_neg (show ¬ (false = true) by decide)] at H; exact H
           clear H
           have H := H1
           clear H1
           replace H := Option.bind_eq_some_iff.mp H
           obtain ⟨⟨t171, t172, t173, t174⟩, A650, H⟩ := H
           replace H : ((bucket_Bucket_Take.f x145000_2 x145001_2 x145002_2).bind fun bt175 => ((wapentakeref17_Take.f x149000_2 x149001_2 x149002_2).bind fun bt179 => ((wapentakeref17_Take.f x153000_2 x153001_2 x153002_2).bind fun bt183 => (wapentakelaw17_BucketPlays.j2 k2 l3 x12_2 t171 bt175.1 bt179.2.2.2 bt183.2.2.2 t172 t173 t174 bt175.2.1 bt175.2.2.1 bt175.2.2.2 bt179.1 bt179.2.1 bt179.2.2.1 bt183.1 bt183.2.1 bt183.2.2.1)))) = some r := H
           have A65 := Aside0.mk A650
           clear A650
           replace H := Option.bind_eq_some_iff.mp H
           obtain ⟨⟨t175, t176, t177, t178⟩, A660, H⟩ := H
           replace H : ((wapentakeref17_Take.f x149000_2 x149001_2 x149002_2).bind fun bt179 => ((wapentakeref17_Take.f x153000_2 x153001_2 x153002_2).bind fun bt183 => (wapentakelaw17_BucketPlays.j2 k2 l3 x12_2 t171 t175 bt179.2.2.2 bt183.2.2.2 t172 t173 t174 t176 t177 t178 bt179.1 bt179.2.1 bt179.2.2.1 bt183.1 bt183.2.1 bt183.2.2.1))) = some r := H
           have A66 := Aside0.mk A660
           clear A660
           replace H := Option.bind_eq_some_iff.mp H
           obtain ⟨⟨t179, t180, t181, t182⟩, A670, H⟩ := H
           replace H : ((wapentakeref17_Take.f x153000_2 x153001_2 x153002_2).bind fun bt183 => (wapentakelaw17_BucketPlays.j2 k2 l3 x12_2 t171 t175 t182 bt183.2.2.2 t172 t173 t174 t176 t177 t178 t179 t180 t181 bt183.1 bt183.2.1 bt183.2.2.1)) = some r := H
           have A67 := Aside0.mk A670
           clear A670
           replace H := Option.bind_eq_some_iff.mp H
           obtain ⟨⟨t183, t184, t185, t186⟩, A680, H⟩ := H
           replace H : (wapentakelaw17_BucketPlays.j2 k2 l3 x12_2 t171 t175 t182 t186 t172 t173 t174 t176 t177 t178 t179 t180 t181 t183 t184 t185) = some r := H
           have A68 := Aside0.mk A680
           clear A680
           have H' := Aside0.mk H
           clear H
           go_wp2_with (first | ((with_reducible refine gate_callee (f := 17) rfl ?_); refine goesL_ (some 56) rfl rfl Try.func17 (by kernel_rfl) rfl #[.pointer (some ⟨gb139, 0, none⟩)] rfl (by (try simp only [List.map_toArray, List.map_cons, List.map_nil]); first | done | rfl | (simp only [List.length_drop, List.length_take]; rfl)) ?_; (with_reducible refine (bucket_Bucket_Take.calls gb139 x140000_2 x140001_2 x140002_2 t171 t172 t173 t174 w _ ?side1 ?side2 A65.out).mono ?_); (case side1 => repeat (first | (with_reducible first | exact HI139.out | apply IsS23.alloc | apply IsS23.drewN | apply IsS23.drew | apply IsS23.set_0 | apply IsS23.set_1 | apply IsS23.set_2 | refine IsS23.far ?_ NB139_148.out _ | refine IsS23.far ?_ NB139_152.out _ | refine IsS23.far ?_ NB139_144.out _) | exact HI139.out)); (case side2 => repeat (first | (with_reducible first | exact HB.out | apply below_alloc | apply pw_below_drewN | apply below_drew1 | refine below_set ?_ (IsS23.ge HI139.out) | refine below_set ?_ (IsS23.ge HI144.out) | refine below_set ?_ GE148.out | refine below_set ?_ GE152.out) | exact HB.out)); rintro e w69 ⟨rfl, hi, hb, hk⟩; refine ⟨_, rfl, ?_⟩; have n0_ := Aside0.mk (KeepBut.blk hk (g' := gb148) (o := .cells #[.int .i64 x149000_2, .int .i64 x149001_2, .int .i64 x149002_2] 27 (0, 0)) (by (with_reducible repeat (first | refine blk_drewN ?_ _ | refine blk_drew ?_ | refine blk_alloc ?_ _)); exact BK148.out) NB148_139.out (by simp)); have n1_ := Aside0.mk (KeepBut.blk hk (g' := gb152) (o := .cells #[.int .i64 x153000_2, .int .i64 x153001_2, .int .i64 x153002_2] 27 (0, 0)) (by (with_reducible repeat (first | refine blk_drewN ?_ _ | refine blk_drew ?_ | refine blk_alloc ?_ _)); exact BK152.out) NB152_139.out (by simp)); have n2_ := Aside0.mk ((show IsS23 w _ gb144 x145000_2 x145001_2 x145002_2 from ⟨KeepBut.blk hk (show IsS23 w _ gb144 x145000_2 x145001_2 x145002_2 from by repeat (first | (with_reducible first | exact HI144.out | apply IsS23.alloc | apply IsS23.drewN | apply IsS23.drew | apply IsS23.set_0 | apply IsS23.set_1 | apply IsS23.set_2 | refine IsS23.far ?_ NB144_148.out _ | refine IsS23.far ?_ NB144_152.out _ | refine IsS23.far ?_ NB144_139.out _) | exact HI144.out)).1 NB144_139.out (by simp), (show IsS23 w _ gb144 x145000_2 x145001_2 x145002_2 from by repeat (first | (with_reducible first | exact HI144.out | apply IsS23.alloc | apply IsS23.drewN | apply IsS23.drew | apply IsS23.set_0 | apply IsS23.set_1 | apply IsS23.set_2 | refine IsS23.far ?_ NB144_148.out _ | refine IsS23.far ?_ NB144_152.out _ | refine IsS23.far ?_ NB144_139.out _) | exact HI144.out)).2⟩)); have n3_ := Aside0.mk (hb); have n4_ := Aside0.mk (hi); clear BK148; clear BK152; clear HI144; clear HB; clear HI139; have BK148 := n0_; have BK152 := n1_; have HI144 := n2_; have HB := n3_; have HI139 := n4_; clear n0_ n1_ n2_ n3_ n4_; (try clear hb); (try clear hb2); (try clear hk); (try clear hi)) | ((with_reducible refine gate_callee (f := 17) rfl ?_); refine goesL_ (some 57) rfl rfl Try.func17 (by kernel_rfl) rfl #[.pointer (some ⟨gb144, 0, none⟩)] rfl (by (try simp only [List.map_toArray, List.map_cons, List.map_nil]); first | done | rfl | (simp only [List.length_drop, List.length_take]; rfl)) ?_; (with_reducible refine (bucket_Bucket_Take.calls gb144 x145000_2 x145001_2 x145002_2 t175 t176 t177 t178 w _ ?side1 ?side2 A66.out).mono ?_); (case side1 => repeat (first | (with_reducible first | exact HI144.out | apply IsS23.alloc | apply IsS23.drewN | apply IsS23.drew | apply IsS23.set_0 | apply IsS23.set_1 | apply IsS23.set_2 | refine IsS23.far ?_ NB144_148.out _ | refine IsS23.far ?_ NB144_152.out _ | refine IsS23.far ?_ NB144_139.out _) | exact HI144.out)); (case side2 => repeat (first | (with_reducible first | exact HB.out | apply below_alloc | apply pw_below_drewN | apply below_drew1 | refine below_set ?_ (IsS23.ge HI139.out) | refine below_set ?_ (IsS23.ge HI144.out) | refine below_set ?_ GE148.out | refine below_set ?_ GE152.out) | exact HB.out)); rintro e w70 ⟨rfl, hi, hb, hk⟩; refine ⟨_, rfl, ?_⟩; have n0_ := Aside0.mk (KeepBut.blk hk (g' := gb148) (o := .cells #[.int .i64 x149000_2, .int .i64 x149001_2, .int .i64 x149002_2] 27 (0, 0)) (by (with_reducible repeat (first | refine blk_drewN ?_ _ | refine blk_drew ?_ | refine blk_alloc ?_ _)); exact BK148.out) NB148_144.out (by simp)); have n1_ := Aside0.mk (KeepBut.blk hk (g' := gb152) (o := .cells #[.int .i64 x153000_2, .int .i64 x153001_2, .int .i64 x153002_2] 27 (0, 0)) (by (with_reducible repeat (first | refine blk_drewN ?_ _ | refine blk_drew ?_ | refine blk_alloc ?_ _)); exact BK152.out) NB152_144.out (by simp)); have n2_ := Aside0.mk ((show IsS23 w _ gb139 t172 t173 t174 from ⟨KeepBut.blk hk (show IsS23 w _ gb139 t172 t173 t174 from by repeat (first | (with_reducible first | exact HI139.out | apply IsS23.alloc | apply IsS23.drewN | apply IsS23.drew | apply IsS23.set_0 | apply IsS23.set_1 | apply IsS23.set_2 | refine IsS23.far ?_ NB139_148.out _ | refine IsS23.far ?_ NB139_152.out _ | refine IsS23.far ?_ NB139_144.out _) | exact HI139.out)).1 NB139_144.out (by simp), (show IsS23 w _ gb139 t172 t173 t174 from by repeat (first | (with_reducible first | exact HI139.out | apply IsS23.alloc | apply IsS23.drewN | apply IsS23.drew | apply IsS23.set_0 | apply IsS23.set_1 | apply IsS23.set_2 | refine IsS23.far ?_ NB139_148.out _ | refine IsS23.far ?_ NB139_152.out _ | refine IsS23.far ?_ NB139_144.out _) | exact HI139.out)).2⟩)); have n3_ := Aside0.mk (hb); have n4_ := Aside0.mk (hi); clear BK148; clear BK152; clear HI139; clear HB; clear HI144; have BK148 := n0_; have BK152 := n1_; have HI139 := n2_; have HB := n3_; have HI144 := n4_; clear n0_ n1_ n2_ n3_ n4_; (try clear hb); (try clear hb2); (try clear hk); (try clear hi); have hnb71 := NB148_152.out; have hnc71 := NB152_148.out; have hnb72 := NB148_139.out; have hnc72 := NB139_148.out; have hnb73 := NB148_144.out; have hnc73 := NB144_148.out; have hcz74_0 : w70.cell? ⟨gb148, 0, none⟩ = some (.int .i64 x149000_2) := (blk_cell BK148.out 0).trans rfl; have hcz74_1 : w70.cell? ⟨gb148, 1, none⟩ = some (.int .i64 x149001_2) := (blk_cell BK148.out 1).trans rfl; have hcz74_2 : w70.cell? ⟨gb148, 2, none⟩ = some (.int .i64 x149002_2) := (blk_cell BK148.out 2).trans rfl; have hfz74_0 := blk_frozen BK148.out 0; have hfz74_1 := blk_frozen BK148.out 1; have hfz74_2 := blk_frozen BK148.out 2) | ((with_reducible refine gate_callee (f := 18) rfl ?_); refine goesL_ (some 60) rfl rfl Try.func18 (by kernel_rfl) rfl #[.agg #[.int .i64 x149000_2, .int .i64 x149001_2, .int .i64 x149002_2]] rfl (by (try simp only [List.map_toArray, List.map_cons, List.map_nil]); first | done | rfl | (simp only [List.length_drop, List.length_take]; rfl)) ?_; (with_reducible refine (wapentakeref17_Take.calls x149000_2 x149001_2 x149002_2 t179 t180 t181 t182 _ A67.out).mono ?_); rintro e w75 ⟨rfl, hb⟩; refine ⟨_, rfl, ?_⟩; have n0_ := Aside0.mk (blk_below (g := gb148) (o := .cells #[.int .i64 x149000_2, .int .i64 x149001_2, .int .i64 x149002_2] 27 (0, 0)) (by (with_reducible repeat (first | refine blk_drewN ?_ _ | refine blk_drew ?_ | refine blk_alloc ?_ _)); exact BK148.out) hb); have n1_ := Aside0.mk (blk_below (g := gb152) (o := .cells #[.int .i64 x153000_2, .int .i64 x153001_2, .int .i64 x153002_2] 27 (0, 0)) (by (with_reducible repeat (first | refine blk_drewN ?_ _ | refine blk_drew ?_ | refine blk_alloc ?_ _)); exact BK152.out) hb); have n2_ := Aside0.mk (IsS23.below (by repeat (first | (with_reducible first | exact HI139.out | apply IsS23.alloc | apply IsS23.drewN | apply IsS23.drew | apply IsS23.set_0 | apply IsS23.set_1 | apply IsS23.set_2 | refine IsS23.far ?_ NB139_148.out _ | refine IsS23.far ?_ NB139_152.out _ | refine IsS23.far ?_ NB139_144.out _) | exact HI139.out)) hb); have n3_ := Aside0.mk (IsS23.below (by repeat (first | (with_reducible first | exact HI144.out | apply IsS23.alloc | apply IsS23.drewN | apply IsS23.drew | apply IsS23.set_0 | apply IsS23.set_1 | apply IsS23.set_2 | refine IsS23.far ?_ NB144_148.out _ | refine IsS23.far ?_ NB144_152.out _ | refine IsS23.far ?_ NB144_139.out _) | exact HI144.out)) hb); have n4_ := Aside0.mk (below_step (by repeat (first | (with_reducible first | exact HB.out | apply below_alloc | apply pw_below_drewN | apply below_drew1 | refine below_set ?_ (IsS23.ge HI139.out) | refine below_set ?_ (IsS23.ge HI144.out) | refine below_set ?_ GE148.out | refine below_set ?_ GE152.out) | exact HB.out)) hb); clear BK148; clear BK152; clear HI139; clear HI144; clear HB; have BK148 := n0_; have BK152 := n1_; have HI139 := n2_; have HI144 := n3_; have HB := n4_; clear n0_ n1_ n2_ n3_ n4_; (try clear hb); (try clear hb2); (try clear hk); (try clear hi); have hcz76_0 : w75.cell? ⟨gb148, 0, none⟩ = some (.int .i64 x149000_2) := (blk_cell BK148.out 0).trans rfl; have hcz76_1 : w75.cell? ⟨gb148, 1, none⟩ = some (.int .i64 x149001_2) := (blk_cell BK148.out 1).trans rfl; have hcz76_2 : w75.cell? ⟨gb148, 2, none⟩ = some (.int .i64 x149002_2) := (blk_cell BK148.out 2).trans rfl; have hfz76_0 := blk_frozen BK148.out 0; have hfz76_1 := blk_frozen BK148.out 1; have hfz76_2 := blk_frozen BK148.out 2; have hnb77 := NB152_139.out; have hnc77 := NB139_152.out; have hnb78 := NB152_144.out; have hnc78 := NB144_152.out; have hcz79_0 : w75.cell? ⟨gb152, 0, none⟩ = some (.int .i64 x153000_2) := (blk_cell BK152.out 0).trans rfl; have hcz79_1 : w75.cell? ⟨gb152, 1, none⟩ = some (.int .i64 x153001_2) := (blk_cell BK152.out 1).trans rfl; have hcz79_2 : w75.cell? ⟨gb152, 2, none⟩ = some (.int .i64 x153002_2) := (blk_cell BK152.out 2).trans rfl; have hfz79_0 := blk_frozen BK152.out 0; have hfz79_1 := blk_frozen BK152.out 1; have hfz79_2 := blk_frozen BK152.out 2) | ((with_reducible refine gate_callee (f := 18) rfl ?_); refine goesL_ (some 65) rfl rfl Try.func18 (by kernel_rfl) rfl #[.agg #[.int .i64 x153000_2, .int .i64 x153001_2, .int .i64 x153002_2]] rfl (by (try simp only [List.map_toArray, List.map_cons, List.map_nil]); first | done | rfl | (simp only [List.length_drop, List.length_take]; rfl)) ?_; (with_reducible refine (wapentakeref17_Take.calls x153000_2 x153001_2 x153002_2 t183 t184 t185 t186 _ A68.out).mono ?_); rintro e w80 ⟨rfl, hb⟩; refine ⟨_, rfl, ?_⟩; have n0_ := Aside0.mk (blk_below (g := gb148) (o := .cells #[.int .i64 t179, .int .i64 t180, .int .i64 t181] 27 (0, 0)) (by (with_reducible repeat (first | refine blk_drewN ?_ _ | refine blk_drew ?_ | refine blk_alloc ?_ _)); refine blk_put (cs := #[.int .i64 t179, .int .i64 t180, .int .i64 x149002_2]) ?_ 2 _ rfl; (with_reducible repeat (first | refine blk_drewN ?_ _ | refine blk_drew ?_ | refine blk_alloc ?_ _)); refine blk_put (cs := #[.int .i64 t179, .int .i64 x149001_2, .int .i64 x149002_2]) ?_ 1 _ rfl; (with_reducible repeat (first | refine blk_drewN ?_ _ | refine blk_drew ?_ | refine blk_alloc ?_ _)); refine blk_put (cs := #[.int .i64 x149000_2, .int .i64 x149001_2, .int .i64 x149002_2]) ?_ 0 _ rfl; (with_reducible repeat (first | refine blk_drewN ?_ _ | refine blk_drew ?_ | refine blk_alloc ?_ _)); exact BK148.out) hb); have n1_ := Aside0.mk (blk_below (g := gb152) (o := .cells #[.int .i64 x153000_2, .int .i64 x153001_2, .int .i64 x153002_2] 27 (0, 0)) (by (with_reducible repeat (first | refine blk_drewN ?_ _ | refine blk_drew ?_ | refine blk_alloc ?_ _)); refine blk_far ?_ NB152_148.out _; (with_reducible repeat (first | refine blk_drewN ?_ _ | refine blk_drew ?_ | refine blk_alloc ?_ _)); refine blk_far ?_ NB152_148.out _; (with_reducible repeat (first | refine blk_drewN ?_ _ | refine blk_drew ?_ | refine blk_alloc ?_ _)); refine blk_far ?_ NB152_148.out _; (with_reducible repeat (first | refine blk_drewN ?_ _ | refine blk_drew ?_ | refine blk_alloc ?_ _)); exact BK152.out) hb); have n2_ := Aside0.mk (IsS23.below (show IsS23 w (((w75.setCell ⟨gb148, 0, none⟩ (.int .i64 t179)).setCell ⟨gb148, 1, none⟩ (.int .i64 t180)).setCell ⟨gb148, 2, none⟩ (.int .i64 t181)) gb139 t172 t173 t174 from by repeat (first | (with_reducible first | exact HI139.out | apply IsS23.alloc | apply IsS23.drewN | apply IsS23.drew | apply IsS23.set_0 | apply IsS23.set_1 | apply IsS23.set_2 | refine IsS23.far ?_ NB139_148.out _ | refine IsS23.far ?_ NB139_152.out _ | refine IsS23.far ?_ NB139_144.out _) | exact HI139.out)) hb); have n3_ := Aside0.mk (IsS23.below (show IsS23 w (((w75.setCell ⟨gb148, 0, none⟩ (.int .i64 t179)).setCell ⟨gb148, 1, none⟩ (.int .i64 t180)).setCell ⟨gb148, 2, none⟩ (.int .i64 t181)) gb144 t176 t177 t178 from by repeat (first | (with_reducible first | exact HI144.out | apply IsS23.alloc | apply IsS23.drewN | apply IsS23.drew | apply IsS23.set_0 | apply IsS23.set_1 | apply IsS23.set_2 | refine IsS23.far ?_ NB144_148.out _ | refine IsS23.far ?_ NB144_152.out _ | refine IsS23.far ?_ NB144_139.out _) | exact HI144.out)) hb); have n4_ := Aside0.mk (below_step (by repeat (first | (with_reducible first | exact HB.out | apply below_alloc | apply pw_below_drewN | apply below_drew1 | refine below_set ?_ (IsS23.ge HI139.out) | refine below_set ?_ (IsS23.ge HI144.out) | refine below_set ?_ GE148.out | refine below_set ?_ GE152.out) | exact HB.out)) hb); clear BK148; clear BK152; clear HI139; clear HI144; clear HB; have BK148 := n0_; have BK152 := n1_; have HI139 := n2_; have HI144 := n3_; have HB := n4_; clear n0_ n1_ n2_ n3_ n4_; (try clear hb); (try clear hb2); (try clear hk); (try clear hi); have hcz81_0 : w80.cell? ⟨gb152, 0, none⟩ = some (.int .i64 x153000_2) := (blk_cell BK152.out 0).trans rfl; have hcz81_1 : w80.cell? ⟨gb152, 1, none⟩ = some (.int .i64 x153001_2) := (blk_cell BK152.out 1).trans rfl; have hcz81_2 : w80.cell? ⟨gb152, 2, none⟩ = some (.int .i64 x153002_2) := (blk_cell BK152.out 2).trans rfl; have hfz81_0 := blk_frozen BK152.out 0; have hfz81_1 := blk_frozen BK152.out 1; have hfz81_2 := blk_frozen BK152.out 2))
           go_meet
           case rel => exact ⟨_, (t171), (t175), (t182), (t186), (t172), (t173), (t174), (t176), (t177), (t178), (t179), (t180), (t181), (t183), (t184), (t185), (by first | rfl | (simp; done) | (simp [*]; done)), (by first | rfl | (simp; done) | (simp [*]; done)), (by first | rfl | (simp; done) | (simp [*]; done)), (by first | rfl | (simp; done) | (simp [*]; done)), H', ⟨by have := HJ11.out; have := HK2.out; first | omega | exact Nat.le_refl _⟩, ⟨by (with_reducible repeat (first | refine blk_drewN ?_ _ | refine blk_drew ?_ | refine blk_alloc ?_ _)); refine blk_far ?_ NB148_152.out _; (with_reducible repeat (first | refine blk_drewN ?_ _ | refine blk_drew ?_ | refine blk_alloc ?_ _)); refine blk_far ?_ NB148_152.out _; (with_reducible repeat (first | refine blk_drewN ?_ _ | refine blk_drew ?_ | refine blk_alloc ?_ _)); refine blk_far ?_ NB148_152.out _; (with_reducible repeat (first | refine blk_drewN ?_ _ | refine blk_drew ?_ | refine blk_alloc ?_ _)); exact BK148.out⟩, ⟨by (with_reducible repeat (first | refine blk_drewN ?_ _ | refine blk_drew ?_ | refine blk_alloc ?_ _)); refine blk_put (cs := #[.int .i64 t183, .int .i64 t184, .int .i64 x153002_2]) ?_ 2 _ rfl; (with_reducible repeat (first | refine blk_drewN ?_ _ | refine blk_drew ?_ | refine blk_alloc ?_ _)); refine blk_put (cs := #[.int .i64 t183, .int .i64 x153001_2, .int .i64 x153002_2]) ?_ 1 _ rfl; (with_reducible repeat (first | refine blk_drewN ?_ _ | refine blk_drew ?_ | refine blk_alloc ?_ _)); refine blk_put (cs := #[.int .i64 x153000_2, .int .i64 x153001_2, .int .i64 x153002_2]) ?_ 0 _ rfl; (with_reducible repeat (first | refine blk_drewN ?_ _ | refine blk_drew ?_ | refine blk_alloc ?_ _)); exact BK152.out⟩, ⟨by repeat (first | (with_reducible first | exact HI139.out | apply IsS23.alloc | apply IsS23.drewN | apply IsS23.drew | apply IsS23.set_0 | apply IsS23.set_1 | apply IsS23.set_2 | refine IsS23.far ?_ NB139_148.out _ | refine IsS23.far ?_ NB139_152.out _ | refine IsS23.far ?_ NB139_144.out _) | exact HI139.out)⟩, ⟨by repeat (first | (with_reducible first | exact HI144.out | apply IsS23.alloc | apply IsS23.drewN | apply IsS23.drew | apply IsS23.set_0 | apply IsS23.set_1 | apply IsS23.set_2 | refine IsS23.far ?_ NB144_148.out _ | refine IsS23.far ?_ NB144_152.out _ | refine IsS23.far ?_ NB144_139.out _) | exact HI144.out)⟩, ⟨by repeat (first | (with_reducible first | exact HB.out | apply below_alloc | apply pw_below_drewN | apply below_drew1 | refine below_set ?_ (IsS23.ge HI139.out) | refine below_set ?_ (IsS23.ge HI144.out) | refine below_set ?_ GE148.out | refine below_set ?_ GE152.out) | exact HB.out)⟩⟩
         case rest =>
          clear HC45
          try clear c1
          try clear p1
          try clear q1
          try clear hx1
          try clear c2
          try clear p2
          try clear c3
          try clear c4
          try clear q4
          try clear c5
          try clear c5b0
          try clear c5b1
          try clear c6
          try clear c7
          try clear c9
          try clear c10
          try clear c11
          try clear c12
          try clear c13
          try clear c14
          try clear c15
          try clear p15
          try clear q15
          try clear hx15
          try clear c16
          try clear c17
          try clear c18
          try clear c21
          try clear c22
          try clear c26
          try clear c27
          try clear c28
          try clear c31
          try clear c31b0
          try clear c42
          try clear c43
          try clear c43b0
          try clear c44
          try clear c44b0
          try clear q46
          try clear c47
          try clear c54
          try clear c55
          try clear c56
          try clear c60
          try clear c61
          try clear c71
          try clear c72
          try clear c73
          try clear c77
          try clear c78
          try clear hcz17_0
          try clear hcz17_1
          try clear hcz17_2
          try clear hcz18_0
          try clear hcz18_1
          try clear hcz18_2
          try clear hcz23_0
          try clear hcz23_1
          try clear hcz23_2
          try clear hcz29_0
          try clear hcz29_1
          try clear hcz29_2
          try clear hcz57_0
          try clear hcz57_1
          try clear hcz57_2
          try clear hcz59_0
          try clear hcz59_1
          try clear hcz59_2
          try clear hcz62_0
          try clear hcz62_1
          try clear hcz62_2
          try clear hcz64_0
          try clear hcz64_1
          try clear hcz64_2
          try clear hcz74_0
          try clear hcz74_1
          try clear hcz74_2
          try clear hcz76_0
          try clear hcz76_1
          try clear hcz76_2
          try clear hcz79_0
          try clear hcz79_1
          try clear hcz79_2
          try clear hcz81_0
          try clear hcz81_1
          try clear hcz81_2
          try clear hfz17_0
          try clear hfz17_1
          try clear hfz17_2
          try clear hfz18_0
          try clear hfz18_1
          try clear hfz18_2
          try clear hfz23_0
          try clear hfz23_1
          try clear hfz23_2
          try clear hfz29_0
          try clear hfz29_1
          try clear hfz29_2
          try clear hfz57_0
          try clear hfz57_1
          try clear hfz57_2
          try clear hfz59_0
          try clear hfz59_1
          try clear hfz59_2
          try clear hfz62_0
          try clear hfz62_1
          try clear hfz62_2
          try clear hfz64_0
          try clear hfz64_1
          try clear hfz64_2
          try clear hfz74_0
          try clear hfz74_1
          try clear hfz74_2
          try clear hfz76_0
          try clear hfz76_1
          try clear hfz76_2
          try clear hfz79_0
          try clear hfz79_1
          try clear hfz79_2
          try clear hfz81_0
          try clear hfz81_1
          try clear hfz81_2
          try clear hx158_0
          try clear p158
          try clear p2
          try clear q158
          obtain ⟨kq, x13_44, x14_44, x15_44, x16_44, x140000_44, x140001_44, x140002_44, x145000_44, x145001_44, x145002_44, x149000_44, x149001_44, x149002_44, x153000_44, x153001_44, x153002_44, rfl, rfl, rfl, rfl, HA, HJ44, BK148, BK152, HI139, HI144, HB⟩ := hcut
          cases kq with
          | zero => exact absurd HA.out (by simp [wapentakelaw17_BucketPlays.j2])
          | succ kj44 =>
           have H := HA.out
           clear HA
           simp only [wapentakelaw17_BucketPlays.j2] at H
           by_cases c82 : (x13_44 != x15_44) = true
           ·rw [if_pos c82] at H
            have c82b0 : (x13_44 != x15_44) = true := c82
            (try (have c82b1 : decide (x13_44 = x15_44) = false := by simpa using c82))
            (try (have c82b2 : (x13_44 == x15_44) = false := by simpa using c82))
            (try (have c82b3 : ¬ (x13_44 = x15_44) := by simpa using c82))
            (try (have c82b4 : (!(x13_44 == x15_44)) = true := by have h_ : (x13_44 != x15_44) = true := c82; exact h_))
            clear c82
            obtain rfl := Option.some.inj H
            try go_wp2
            have n0_ := Aside0.mk (blk_drew BK148.out)
            have n1_ := Aside0.mk (blk_drew BK152.out)
            have n2_ := Aside0.mk (IsS23.drew HI139.out)
            have n3_ := Aside0.mk (IsS23.drew HI144.out)
            have n4_ := Aside0.mk (below_drew1 HB.out)
            clear BK148
            clear BK152
            clear HI139
            clear HI144
            clear HB
            have BK148 := n0_
            have BK152 := n1_
            have HI139 := n2_
            have HI144 := n3_
            have HB := n4_
            clear n0_ n1_ n2_ n3_ n4_
            refine start_ (n := 20) (S := fun w' => True) (ds := []) #[false, false, false, false, false, false, false, false, false, false, false, false, false, false, false, false, false, false, false, false] (by kernel_rfl) rfl rfl trivial (fun hHeld => ?_); refine with_tabW wapentakelaw17_BucketPlays.tab21 wapentakelaw17_BucketPlays.bits21 (fun HT_ HW_ => ?_)
            generalize wc.drew = w83 at BK148 BK152 HI139 HI144 HB hHeld ⊢
            refine pure_ (i := 0) (N := some 68) (v := ?_) (a' := ?_) (bq_ 20 1) rfl rfl (any_of HT_.out (by kernel_rfl)) (fun _ _ _ h => h) (Or.inl ⟨by rfl, ?_⟩) ?_ ?_
            rotate_left
            ·intro w'
             go_simp
             with_reducible rfl
            rotate_left
            ·simp only [Act.put, zA, zB, zC, i64_w, i32_w]
             rfl
            refine pure_ (i := 1) (N := some 69) (v := ?_) (a' := ?_) (bq_ 20 3) rfl rfl (any_of HT_.out (by kernel_rfl)) (fun _ _ _ h => h) (Or.inl ⟨by rfl, ?_⟩) ?_ ?_
            rotate_left
            ·intro w'
             go_simp
             with_reducible rfl
            rotate_left
            ·simp only [Act.put, zA, zB, zC, i64_w, i32_w]
             rfl
            refine pure_ (i := 2) (N := some 70) (v := ?_) (a' := ?_) (bq_ 20 7) rfl rfl (any_of HT_.out (by kernel_rfl)) (fun _ _ _ h => h) (Or.inl ⟨by rfl, ?_⟩) ?_ ?_
            rotate_left
            ·intro w'
             go_simp
             with_reducible rfl
            rotate_left
            ·simp only [Act.put, zA, zB, zC, i64_w, i32_w]
             rfl
            refine pure_ (i := 3) (N := some 71) (v := ?_) (a' := ?_) (bq_ 20 15) rfl rfl (any_of HT_.out (by kernel_rfl)) (fun _ _ _ h => h) (Or.inl ⟨by rfl, ?_⟩) ?_ ?_
            rotate_left
            ·intro w'
             go_simp
             with_reducible rfl
            rotate_left
            ·simp only [Act.put, zA, zB, zC, i64_w, i32_w]
             rfl
            refine pure_ (i := 4) (N := some 72) (v := undef) (a' := ?_) (bq_ 20 31) rfl rfl (any_of HT_.out (by kernel_rfl)) (fun _ _ _ h => h) (Or.inr ⟨by rfl, rfl⟩) ?_ ?_
            rotate_left
            ·simp only [Act.put, zA, zB, zC, i64_w, i32_w]
             rfl
            refine pure_ (i := 5) (N := some 73) (v := undef) (a' := ?_) (bq_ 20 63) rfl rfl (any_of HT_.out (by kernel_rfl)) (fun _ _ _ h => h) (Or.inr ⟨by rfl, rfl⟩) ?_ ?_
            rotate_left
            ·simp only [Act.put, zA, zB, zC, i64_w, i32_w]
             rfl
            refine pure_ (i := 6) (N := some 74) (v := undef) (a' := ?_) (bq_ 20 127) rfl rfl (any_of HT_.out (by kernel_rfl)) (fun _ _ _ h => h) (Or.inr ⟨by rfl, rfl⟩) ?_ ?_
            rotate_left
            ·simp only [Act.put, zA, zB, zC, i64_w, i32_w]
             rfl
            refine pure_ (i := 7) (N := some 75) (v := ?_) (a' := ?_) (bq_ 20 255) rfl rfl (any_of HT_.out (by kernel_rfl)) (fun _ _ _ h => h) (Or.inl ⟨by rfl, ?_⟩) ?_ ?_
            rotate_left
            ·intro w'
             go_simp
             with_reducible rfl
            rotate_left
            ·simp only [Act.put, zA, zB, zC, i64_w, i32_w]
             rfl
            refine pure_ (i := 8) (N := some 76) (v := ?_) (a' := ?_) (bq_ 20 511) rfl rfl (any_of HT_.out (by kernel_rfl)) (fun _ _ _ h => h) (Or.inl ⟨by rfl, ?_⟩) ?_ ?_
            rotate_left
            ·intro w'
             go_simp
             with_reducible rfl
            rotate_left
            ·simp only [Act.put, zA, zB, zC, i64_w, i32_w]
             rfl
            refine pure_ (i := 9) (N := some 77) (v := undef) (a' := ?_) (bq_ 20 1023) rfl rfl (any_of HT_.out (by kernel_rfl)) (fun _ _ _ h => h) (Or.inr ⟨by rfl, rfl⟩) ?_ ?_
            rotate_left
            ·simp only [Act.put, zA, zB, zC, i64_w, i32_w]
             rfl
            refine pure_ (i := 10) (N := some 78) (v := undef) (a' := ?_) (bq_ 20 2047) rfl rfl (any_of HT_.out (by kernel_rfl)) (fun _ _ _ h => h) (Or.inr ⟨by rfl, rfl⟩) ?_ ?_
            rotate_left
            ·simp only [Act.put, zA, zB, zC, i64_w, i32_w]
             rfl
            refine pure_ (i := 11) (N := some 79) (v := undef) (a' := ?_) (bq_ 20 4095) rfl rfl (any_of HT_.out (by kernel_rfl)) (fun _ _ _ h => h) (Or.inr ⟨by rfl, rfl⟩) ?_ ?_
            rotate_left
            ·simp only [Act.put, zA, zB, zC, i64_w, i32_w]
             rfl
            refine pure_ (i := 12) (N := some 80) (v := undef) (a' := ?_) (bq_ 20 8191) rfl rfl (any_of HT_.out (by kernel_rfl)) (fun _ _ _ h => h) (Or.inr ⟨by rfl, rfl⟩) ?_ ?_
            rotate_left
            ·simp only [Act.put, zA, zB, zC, i64_w, i32_w]
             rfl
            refine pure_ (i := 13) (N := some 81) (v := ?_) (a' := ?_) (bq_ 20 16383) rfl rfl (any_of HT_.out (by kernel_rfl)) (fun _ _ _ h => h) (Or.inl ⟨by rfl, ?_⟩) ?_ ?_
            rotate_left
            ·intro w'
             go_simp
             with_reducible rfl
            rotate_left
            ·simp only [Act.put, zA, zB, zC, i64_w, i32_w]
             rfl
            refine pure_ (i := 14) (N := some 82) (v := ?_) (a' := ?_) (bq_ 20 32767) rfl rfl (any_of HT_.out (by kernel_rfl)) (fun _ _ _ h => h) (Or.inl ⟨by rfl, ?_⟩) ?_ ?_
            rotate_left
            ·intro w'
             go_simp
             with_reducible rfl
            rotate_left
            ·simp only [Act.put, zA, zB, zC, i64_w, i32_w]
             rfl
            refine pure_ (i := 15) (N := some 83) (v := undef) (a' := ?_) (bq_ 20 65535) rfl rfl (any_of HT_.out (by kernel_rfl)) (fun _ _ _ h => h) (Or.inr ⟨by rfl, rfl⟩) ?_ ?_
            rotate_left
            ·simp only [Act.put, zA, zB, zC, i64_w, i32_w]
             rfl
            refine pure_ (i := 16) (N := some 84) (v := undef) (a' := ?_) (bq_ 20 131071) rfl rfl (any_of HT_.out (by kernel_rfl)) (fun _ _ _ h => h) (Or.inr ⟨by rfl, rfl⟩) ?_ ?_
            rotate_left
            ·simp only [Act.put, zA, zB, zC, i64_w, i32_w]
             rfl
            refine pure_ (i := 17) (N := some 85) (v := undef) (a' := ?_) (bq_ 20 262143) rfl rfl (any_of HT_.out (by kernel_rfl)) (fun _ _ _ h => h) (Or.inr ⟨by rfl, rfl⟩) ?_ ?_
            rotate_left
            ·simp only [Act.put, zA, zB, zC, i64_w, i32_w]
             rfl
            refine pure_ (i := 18) (N := some 86) (v := undef) (a' := ?_) (bq_ 20 524287) rfl rfl (any_of HT_.out (by kernel_rfl)) (fun _ _ _ h => h) (Or.inr ⟨by rfl, rfl⟩) ?_ ?_
            rotate_left
            ·simp only [Act.put, zA, zB, zC, i64_w, i32_w]
             rfl
            refine pure_ (i := 19) (N := some 87) (v := ?_) (a' := ?_) (bq_ 20 1048575) rfl rfl (any_of HT_.out (by kernel_rfl)) (fun _ _ _ h => h) (Or.inl ⟨by rfl, ?_⟩) ?_ ?_
            rotate_left
            ·intro w'
             go_simp
             with_reducible rfl
            rotate_left
            ·simp only [Act.put, zA, zB, zC, i64_w, i32_w]
             rfl
            refine done_ (done_of HT_.out (by kernel_rfl)) ?_
            try go_wp2
            go_ret
            exact ⟨by first | rfl | (simp [errW_none, errW_some] <;> rfl) | (simp [*, errW_none, errW_some] <;> rfl), by repeat (first | (with_reducible first | exact HB.out | apply below_alloc | apply pw_below_drewN | apply below_drew1 | refine below_set ?_ (IsS23.ge HI139.out) | refine below_set ?_ (IsS23.ge HI144.out) | refine below_set ?_ GE148.out | refine below_set ?_ GE152.out) | exact HB.out)⟩
           ·rw [if_neg c82] at H
            have c82b0 : (x13_44 != x15_44) = false := by simpa using c82
            (try (have c82b1 : decide (x13_44 = x15_44) = true := by simpa using c82))
            (try (have c82b2 : (x13_44 == x15_44) = true := by simpa using c82))
            (try (have c82b3 : (!(x13_44 == x15_44)) = false := by have h_ : (x13_44 != x15_44) = false := (by simpa using c82); exact h_))
            clear c82
            by_cases c84 : (x14_44 != x16_44) = true
            ·rw [if_pos c84] at H
             have c84b0 : (x14_44 != x16_44) = true := c84
             (try (have c84b1 : decide (x14_44 = x16_44) = false := by simpa using c84))
             (try (have c84b2 : (x14_44 == x16_44) = false := by simpa using c84))
             (try (have c84b3 : ¬ (x14_44 = x16_44) := by simpa using c84))
             (try (have c84b4 : (!(x14_44 == x16_44)) = true := by have h_ : (x14_44 != x16_44) = true := c84; exact h_))
             clear c84
             obtain rfl := Option.some.inj H
             try go_wp2
             have n0_ := Aside0.mk (blk_drew BK148.out)
             have n1_ := Aside0.mk (blk_drew BK152.out)
             have n2_ := Aside0.mk (IsS23.drew HI139.out)
             have n3_ := Aside0.mk (IsS23.drew HI144.out)
             have n4_ := Aside0.mk (below_drew1 HB.out)
             clear BK148
             clear BK152
             clear HI139
             clear HI144
             clear HB
             have BK148 := n0_
             have BK152 := n1_
             have HI139 := n2_
             have HI144 := n3_
             have HB := n4_
             clear n0_ n1_ n2_ n3_ n4_
             refine start_ (n := 20) (S := fun w' => True) (ds := []) #[false, false, false, false, false, false, false, false, false, false, false, false, false, false, false, false, false, false, false, false] (by kernel_rfl) rfl rfl trivial (fun hHeld => ?_); refine with_tabW wapentakelaw17_BucketPlays.tab21 wapentakelaw17_BucketPlays.bits21 (fun HT_ HW_ => ?_)
             generalize wc.drew = w85 at BK148 BK152 HI139 HI144 HB hHeld ⊢
             refine pure_ (i := 0) (N := some 68) (v := ?_) (a' := ?_) (bq_ 20 1) rfl rfl (any_of HT_.out (by kernel_rfl)) (fun _ _ _ h => h) (Or.inl ⟨by rfl, ?_⟩) ?_ ?_
             rotate_left
             ·intro w'
              go_simp
              with_reducible rfl
             rotate_left
             ·simp only [Act.put, zA, zB, zC, i64_w, i32_w]
              rfl
             refine pure_ (i := 1) (N := some 69) (v := ?_) (a' := ?_) (bq_ 20 3) rfl rfl (any_of HT_.out (by kernel_rfl)) (fun _ _ _ h => h) (Or.inl ⟨by rfl, ?_⟩) ?_ ?_
             rotate_left
             ·intro w'
              go_simp
              with_reducible rfl
             rotate_left
             ·simp only [Act.put, zA, zB, zC, i64_w, i32_w]
              rfl
             refine pure_ (i := 2) (N := some 70) (v := ?_) (a' := ?_) (bq_ 20 7) rfl rfl (any_of HT_.out (by kernel_rfl)) (fun _ _ _ h => h) (Or.inl ⟨by rfl, ?_⟩) ?_ ?_
             rotate_left
             ·intro w'
              go_simp
              with_reducible rfl
             rotate_left
             ·simp only [Act.put, zA, zB, zC, i64_w, i32_w]
              rfl
             refine pure_ (i := 3) (N := some 71) (v := ?_) (a' := ?_) (bq_ 20 15) rfl rfl (any_of HT_.out (by kernel_rfl)) (fun _ _ _ h => h) (Or.inl ⟨by rfl, ?_⟩) ?_ ?_
             rotate_left
             ·intro w'
              go_simp
              with_reducible rfl
             rotate_left
             ·simp only [Act.put, zA, zB, zC, i64_w, i32_w]
              rfl
             refine pure_ (i := 4) (N := some 72) (v := ?_) (a' := ?_) (bq_ 20 31) rfl rfl (any_of HT_.out (by kernel_rfl)) (fun _ _ _ h => h) (Or.inl ⟨by rfl, ?_⟩) ?_ ?_
             rotate_left
             ·intro w'
              go_simp
              with_reducible rfl
             rotate_left
             ·simp only [Act.put, zA, zB, zC, i64_w, i32_w]
              rfl
             refine pure_ (i := 5) (N := some 73) (v := ?_) (a' := ?_) (bq_ 20 63) rfl rfl (any_of HT_.out (by kernel_rfl)) (fun _ _ _ h => h) (Or.inl ⟨by rfl, ?_⟩) ?_ ?_
             rotate_left
             ·intro w'
              go_simp
              with_reducible rfl
             rotate_left
             ·simp only [Act.put, zA, zB, zC, i64_w, i32_w]
              rfl
             refine pure_ (i := 6) (N := some 74) (v := ?_) (a' := ?_) (bq_ 20 127) rfl rfl (any_of HT_.out (by kernel_rfl)) (fun _ _ _ h => h) (Or.inl ⟨by rfl, ?_⟩) ?_ ?_
             rotate_left
             ·intro w'
              go_simp
              with_reducible rfl
             rotate_left
             ·simp only [Act.put, zA, zB, zC, i64_w, i32_w]
              rfl
             refine pure_ (i := 7) (N := some 75) (v := ?_) (a' := ?_) (bq_ 20 255) rfl rfl (any_of HT_.out (by kernel_rfl)) (fun _ _ _ h => h) (Or.inl ⟨by rfl, ?_⟩) ?_ ?_
             rotate_left
             ·intro w'
              go_simp
              with_reducible rfl
             rotate_left
             ·simp only [Act.put, zA, zB, zC, i64_w, i32_w]
              rfl
             refine pure_ (i := 8) (N := some 76) (v := ?_) (a' := ?_) (bq_ 20 511) rfl rfl (any_of HT_.out (by kernel_rfl)) (fun _ _ _ h => h) (Or.inl ⟨by rfl, ?_⟩) ?_ ?_
             rotate_left
             ·intro w'
              go_simp
              with_reducible rfl
             rotate_left
             ·simp only [Act.put, zA, zB, zC, i64_w, i32_w]
              rfl
             refine pure_ (i := 9) (N := some 77) (v := undef) (a' := ?_) (bq_ 20 1023) rfl rfl (any_of HT_.out (by kernel_rfl)) (fun _ _ _ h => h) (Or.inr ⟨by rfl, rfl⟩) ?_ ?_
             rotate_left
             ·simp only [Act.put, zA, zB, zC, i64_w, i32_w]
              rfl
             refine pure_ (i := 10) (N := some 78) (v := undef) (a' := ?_) (bq_ 20 2047) rfl rfl (any_of HT_.out (by kernel_rfl)) (fun _ _ _ h => h) (Or.inr ⟨by rfl, rfl⟩) ?_ ?_
             rotate_left
             ·simp only [Act.put, zA, zB, zC, i64_w, i32_w]
              rfl
             refine pure_ (i := 11) (N := some 79) (v := undef) (a' := ?_) (bq_ 20 4095) rfl rfl (any_of HT_.out (by kernel_rfl)) (fun _ _ _ h => h) (Or.inr ⟨by rfl, rfl⟩) ?_ ?_
             rotate_left
             ·simp only [Act.put, zA, zB, zC, i64_w, i32_w]
              rfl
             refine pure_ (i := 12) (N := some 80) (v := undef) (a' := ?_) (bq_ 20 8191) rfl rfl (any_of HT_.out (by kernel_rfl)) (fun _ _ _ h => h) (Or.inr ⟨by rfl, rfl⟩) ?_ ?_
             rotate_left
             ·simp only [Act.put, zA, zB, zC, i64_w, i32_w]
              rfl
             refine pure_ (i := 13) (N := some 81) (v := ?_) (a' := ?_) (bq_ 20 16383) rfl rfl (any_of HT_.out (by kernel_rfl)) (fun _ _ _ h => h) (Or.inl ⟨by rfl, ?_⟩) ?_ ?_
             rotate_left
             ·intro w'
              go_simp
              with_reducible rfl
             rotate_left
             ·simp only [Act.put, zA, zB, zC, i64_w, i32_w]
              rfl
             refine pure_ (i := 14) (N := some 82) (v := ?_) (a' := ?_) (bq_ 20 32767) rfl rfl (any_of HT_.out (by kernel_rfl)) (fun _ _ _ h => h) (Or.inl ⟨by rfl, ?_⟩) ?_ ?_
             rotate_left
             ·intro w'
              go_simp
              with_reducible rfl
             rotate_left
             ·simp only [Act.put, zA, zB, zC, i64_w, i32_w]
              rfl
             refine pure_ (i := 15) (N := some 83) (v := undef) (a' := ?_) (bq_ 20 65535) rfl rfl (any_of HT_.out (by kernel_rfl)) (fun _ _ _ h => h) (Or.inr ⟨by rfl, rfl⟩) ?_ ?_
             rotate_left
             ·simp only [Act.put, zA, zB, zC, i64_w, i32_w]
              rfl
             refine pure_ (i := 16) (N := some 84) (v := undef) (a' := ?_) (bq_ 20 131071) rfl rfl (any_of HT_.out (by kernel_rfl)) (fun _ _ _ h => h) (Or.inr ⟨by rfl, rfl⟩) ?_ ?_
             rotate_left
             ·simp only [Act.put, zA, zB, zC, i64_w, i32_w]
              rfl
             refine pure_ (i := 17) (N := some 85) (v := undef) (a' := ?_) (bq_ 20 262143) rfl rfl (any_of HT_.out (by kernel_rfl)) (fun _ _ _ h => h) (Or.inr ⟨by rfl, rfl⟩) ?_ ?_
             rotate_left
             ·simp only [Act.put, zA, zB, zC, i64_w, i32_w]
              rfl
             refine pure_ (i := 18) (N := some 86) (v := undef) (a' := ?_) (bq_ 20 524287) rfl rfl (any_of HT_.out (by kernel_rfl)) (fun _ _ _ h => h) (Or.inr ⟨by rfl, rfl⟩) ?_ ?_
             rotate_left
             ·simp only [Act.put, zA, zB, zC, i64_w, i32_w]
              rfl
             refine pure_ (i := 19) (N := some 87) (v := ?_) (a' := ?_) (bq_ 20 1048575) rfl rfl (any_of HT_.out (by kernel_rfl)) (fun _ _ _ h => h) (Or.inl ⟨by rfl, ?_⟩) ?_ ?_
             rotate_left
             ·intro w'
              go_simp
              with_reducible rfl
             rotate_left
             ·simp only [Act.put, zA, zB, zC, i64_w, i32_w]
              rfl
             refine done_ (done_of HT_.out (by kernel_rfl)) ?_
             try go_wp2
             go_ret
             exact ⟨by first | rfl | (simp [errW_none, errW_some] <;> rfl) | (simp [*, errW_none, errW_some] <;> rfl), by repeat (first | (with_reducible first | exact HB.out | apply below_alloc | apply pw_below_drewN | apply below_drew1 | refine below_set ?_ (IsS23.ge HI139.out) | refine below_set ?_ (IsS23.ge HI144.out) | refine below_set ?_ GE148.out | refine below_set ?_ GE152.out) | exact HB.out)⟩
            ·rw [if_neg c84] at H
             have c84b0 : (x14_44 != x16_44) = false := by simpa using c84
             (try (have c84b1 : decide (x14_44 = x16_44) = true := by simpa using c84))
             (try (have c84b2 : (x14_44 == x16_44) = true := by simpa using c84))
             (try (have c84b3 : (!(x14_44 == x16_44)) = false := by have h_ : (x14_44 != x16_44) = false := (by simpa using c84); exact h_))
             clear c84
             replace H := Option.bind_eq_some_iff.mp H
             obtain ⟨⟨t187, t188, t189⟩, A860, H⟩ := H
             replace H : (if (!(t187 == x149000_44) || (!(t188 == x149001_44) || (!(t189 == x149002_44)))) = true then (some false) else ((wapentakelaw17_given.f x145000_44 x145001_44 x145002_44).bind fun bt190 => (if (!(bt190.1 == x153000_44) || (!(bt190.2.1 == x153001_44) || (!(bt190.2.2 == x153002_44)))) = true then (some false) else (wapentakelaw17_BucketPlays.l0 kj44 l3 (wrap64 (x12_2 + 1)) x140000_44 x140001_44 x140002_44 x145000_44 x145001_44 x145002_44 x149000_44 x149001_44 x149002_44 x153000_44 x153001_44 x153002_44)))) = some r := H
             have A86 := Aside0.mk A860
             clear A860
             by_cases c87 : (!(t187 == x149000_44) || (!(t188 == x149001_44) || (!(t189 == x149002_44)))) = true
             ·rw [if_pos c87] at H
              have c87b0 : (!(t187 == x149000_44) || (!(t188 == x149001_44) || (!(t189 == x149002_44)))) = true := c87
              clear c87
              obtain rfl := Option.some.inj H
              try go_wp2
              have n0_ := Aside0.mk (blk_drew BK148.out)
              have n1_ := Aside0.mk (blk_drew BK152.out)
              have n2_ := Aside0.mk (IsS23.drew HI139.out)
              have n3_ := Aside0.mk (IsS23.drew HI144.out)
              have n4_ := Aside0.mk (below_drew1 HB.out)
              clear BK148
              clear BK152
              clear HI139
              clear HI144
              clear HB
              have BK148 := n0_
              have BK152 := n1_
              have HI139 := n2_
              have HI144 := n3_
              have HB := n4_
              clear n0_ n1_ n2_ n3_ n4_
              refine start_ (n := 20) (S := fun w' => w'.cell? ⟨gb139, 0, none⟩ = some (.int .i64 x140000_44) ∧ w'.cell? ⟨gb139, 1, none⟩ = some (.int .i64 x140001_44) ∧ w'.cell? ⟨gb139, 2, none⟩ = some (.int .i64 x140002_44) ∧ w'.cell? ⟨gb148, 0, none⟩ = some (.int .i64 x149000_44) ∧ w'.cell? ⟨gb148, 1, none⟩ = some (.int .i64 x149001_44) ∧ w'.cell? ⟨gb148, 2, none⟩ = some (.int .i64 x149002_44)) (ds := []) #[false, false, false, false, false, false, false, false, false, false, false, false, false, false, false, false, false, false, false, false] (by kernel_rfl) rfl rfl ⟨(blk_cell HI139.out.1 0).trans rfl, (blk_cell HI139.out.1 1).trans rfl, (blk_cell HI139.out.1 2).trans rfl, (blk_cell BK148.out 0).trans rfl, (blk_cell BK148.out 1).trans rfl, (blk_cell BK148.out 2).trans rfl⟩ (fun hHeld => ?_); refine with_tabW wapentakelaw17_BucketPlays.tab21 wapentakelaw17_BucketPlays.bits21 (fun HT_ HW_ => ?_)
              generalize wc.drew = w88 at BK148 BK152 HI139 HI144 HB hHeld ⊢
              refine pure_ (i := 0) (N := some 68) (v := ?_) (a' := ?_) (bq_ 20 1) rfl rfl (any_of HT_.out (by kernel_rfl)) (fun _ _ _ h => h) (Or.inl ⟨by rfl, ?_⟩) ?_ ?_
              rotate_left
              ·intro w'
               go_simp
               with_reducible rfl
              rotate_left
              ·simp only [Act.put, zA, zB, zC, i64_w, i32_w]
               rfl
              refine pure_ (i := 1) (N := some 69) (v := ?_) (a' := ?_) (bq_ 20 3) rfl rfl (any_of HT_.out (by kernel_rfl)) (fun _ _ _ h => h) (Or.inl ⟨by rfl, ?_⟩) ?_ ?_
              rotate_left
              ·intro w'
               go_simp
               with_reducible rfl
              rotate_left
              ·simp only [Act.put, zA, zB, zC, i64_w, i32_w]
               rfl
              refine pure_ (i := 2) (N := some 70) (v := ?_) (a' := ?_) (bq_ 20 7) rfl rfl (any_of HT_.out (by kernel_rfl)) (fun _ _ _ h => h) (Or.inl ⟨by rfl, ?_⟩) ?_ ?_
              rotate_left
              ·intro w'
               go_simp
               with_reducible rfl
              rotate_left
              ·simp only [Act.put, zA, zB, zC, i64_w, i32_w]
               rfl
              refine pure_ (i := 3) (N := some 71) (v := ?_) (a' := ?_) (bq_ 20 15) rfl rfl (any_of HT_.out (by kernel_rfl)) (fun _ _ _ h => h) (Or.inl ⟨by rfl, ?_⟩) ?_ ?_
              rotate_left
              ·intro w'
               go_simp
               with_reducible rfl
              rotate_left
              ·simp only [Act.put, zA, zB, zC, i64_w, i32_w]
               rfl
              refine pure_ (i := 4) (N := some 72) (v := ?_) (a' := ?_) (bq_ 20 31) rfl rfl (any_of HT_.out (by kernel_rfl)) (fun _ _ _ h => h) (Or.inl ⟨by rfl, ?_⟩) ?_ ?_
              rotate_left
              ·intro w'
               go_simp
               with_reducible rfl
              rotate_left
              ·simp only [Act.put, zA, zB, zC, i64_w, i32_w]
               rfl
              refine pure_ (i := 5) (N := some 73) (v := ?_) (a' := ?_) (bq_ 20 63) rfl rfl (any_of HT_.out (by kernel_rfl)) (fun _ _ _ h => h) (Or.inl ⟨by rfl, ?_⟩) ?_ ?_
              rotate_left
              ·intro w'
               go_simp
               with_reducible rfl
              rotate_left
              ·simp only [Act.put, zA, zB, zC, i64_w, i32_w]
               rfl
              refine pure_ (i := 6) (N := some 74) (v := ?_) (a' := ?_) (bq_ 20 127) rfl rfl (any_of HT_.out (by kernel_rfl)) (fun _ _ _ h => h) (Or.inl ⟨by rfl, ?_⟩) ?_ ?_
              rotate_left
              ·intro w'
               go_simp
               with_reducible rfl
              rotate_left
              ·simp only [Act.put, zA, zB, zC, i64_w, i32_w]
               rfl
              refine pure_ (i := 7) (N := some 75) (v := ?_) (a' := ?_) (bq_ 20 255) rfl rfl (any_of HT_.out (by kernel_rfl)) (fun _ _ _ h => h) (Or.inl ⟨by rfl, ?_⟩) ?_ ?_
              rotate_left
              ·intro w'
               go_simp
               with_reducible rfl
              rotate_left
              ·simp only [Act.put, zA, zB, zC, i64_w, i32_w]
               rfl
              refine pure_ (i := 8) (N := some 76) (v := ?_) (a' := ?_) (bq_ 20 511) rfl rfl (any_of HT_.out (by kernel_rfl)) (fun _ _ _ h => h) (Or.inl ⟨by rfl, ?_⟩) ?_ ?_
              rotate_left
              ·intro w'
               go_simp
               with_reducible rfl
              rotate_left
              ·simp only [Act.put, zA, zB, zC, i64_w, i32_w]
               rfl
              refine take_ (i := 9) (N := some 77) (v := ?_) (a' := ?_) (bq_ 20 1023) rfl rfl (take_ofW HT_.out HW_.out (by kernel_rfl)) (fun _ _ _ h => h) (Or.inl ⟨by rfl, ?_⟩) hHeld ?_ ?_
              rotate_left
              ·rintro w' ⟨s0, s1, s2, s3, s4, s5⟩
               go_simp
               with_reducible rfl
              rotate_left
              ·simp only [Act.put, zA, zB, zC, i64_w, i32_w]
               rfl
              refine take_ (i := 11) (N := some 79) (v := ?_) (a' := ?_) (bq_ 20 3071) rfl rfl (take_ofW HT_.out HW_.out (by kernel_rfl)) (fun _ _ _ h => h) (Or.inl ⟨by rfl, ?_⟩) hHeld ?_ ?_
              rotate_left
              ·rintro w' ⟨s0, s1, s2, s3, s4, s5⟩
               go_simp
               with_reducible rfl
              rotate_left
              ·simp only [Act.put, zA, zB, zC, i64_w, i32_w]
               rfl
              refine one_ (i := 10) (N := some 78) (bq_ 20 4095) rfl rfl (one_of HT_.out (by kernel_rfl)) (by decide) (fun K hK => ?_)
              refine goes_ Try.func11 (by kernel_rfl) rfl #[.agg #[.int .i64 x140000_44, .int .i64 x140001_44, .int .i64 x140002_44]] (by rfl) rfl rfl (by (try simp only [List.map_toArray, List.map_cons, List.map_nil]); first | done | rfl | (simp only [List.length_drop, List.length_take]; rfl)) ?_
              with_reducible refine (wapentakelaw17_given.calls x140000_44 x140001_44 x140002_44 t187 t188 t189 _ A86.out).mono ?_
              rintro e w89 ⟨rfl, hb⟩
              refine ⟨_, rfl, ?_⟩
              have n0_ := Aside0.mk (blk_below (g := gb148) (o := .cells #[.int .i64 x149000_44, .int .i64 x149001_44, .int .i64 x149002_44] 27 (0, 0)) (by (with_reducible repeat (first | refine blk_drewN ?_ _ | refine blk_drew ?_ | refine blk_alloc ?_ _)); exact BK148.out) hb)
              have n1_ := Aside0.mk (blk_below (g := gb152) (o := .cells #[.int .i64 x153000_44, .int .i64 x153001_44, .int .i64 x153002_44] 27 (0, 0)) (by (with_reducible repeat (first | refine blk_drewN ?_ _ | refine blk_drew ?_ | refine blk_alloc ?_ _)); exact BK152.out) hb)
              have n2_ := Aside0.mk (IsS23.below (by repeat (first | (with_reducible first | exact HI139.out | apply IsS23.alloc | apply IsS23.drewN | apply IsS23.drew | apply IsS23.set_0 | apply IsS23.set_1 | apply IsS23.set_2 | refine IsS23.far ?_ NB139_148.out _ | refine IsS23.far ?_ NB139_152.out _ | refine IsS23.far ?_ NB139_144.out _) | exact HI139.out)) hb)
              have n3_ := Aside0.mk (IsS23.below (by repeat (first | (with_reducible first | exact HI144.out | apply IsS23.alloc | apply IsS23.drewN | apply IsS23.drew | apply IsS23.set_0 | apply IsS23.set_1 | apply IsS23.set_2 | refine IsS23.far ?_ NB144_148.out _ | refine IsS23.far ?_ NB144_152.out _ | refine IsS23.far ?_ NB144_139.out _) | exact HI144.out)) hb)
              have n4_ := Aside0.mk (below_step (by repeat (first | (with_reducible first | exact HB.out | apply below_alloc | apply pw_below_drewN | apply below_drew1 | refine below_set ?_ (IsS23.ge HI139.out) | refine below_set ?_ (IsS23.ge HI144.out) | refine below_set ?_ GE148.out | refine below_set ?_ GE152.out) | exact HB.out)) hb)
              clear BK148
              clear BK152
              clear HI139
              clear HI144
              clear HB
              have BK148 := n0_
              have BK152 := n1_
              have HI139 := n2_
              have HI144 := n3_
              have HB := n4_
              clear n0_ n1_ n2_ n3_ n4_
              (try clear hb)
              (try clear hb2)
              (try clear hk)
              (try clear hi)
              refine hK.out _ _ ⟨(blk_cell HI139.out.1 0).trans rfl, (blk_cell HI139.out.1 1).trans rfl, (blk_cell HI139.out.1 2).trans rfl, (blk_cell BK148.out 0).trans rfl, (blk_cell BK148.out 1).trans rfl, (blk_cell BK148.out 2).trans rfl⟩ (fun hHeld => ?_)
              clear hK K
              refine norm_ (a' := ?_) ?_ ?_
              rotate_left
              ·show Act.put _ (some 78) _ = _
               simp only [Act.put, zA, zB, zC, i64_w, i32_w]
               rfl
              refine pure_ (i := 12) (N := some 80) (v := ?_) (a' := ?_) (bq_ 20 8191) rfl rfl (any_of HT_.out (by kernel_rfl)) (fun _ _ _ h => h) (Or.inl ⟨by rfl, ?_⟩) ?_ ?_
              rotate_left
              ·intro w'
               go_simp
               with_reducible rfl
              rotate_left
              ·simp only [Act.put, zA, zB, zC, i64_w, i32_w]
               rfl
              refine pure_ (i := 13) (N := some 81) (v := ?_) (a' := ?_) (bq_ 20 16383) rfl rfl (any_of HT_.out (by kernel_rfl)) (fun _ _ _ h => h) (Or.inl ⟨by rfl, ?_⟩) ?_ ?_
              rotate_left
              ·intro w'
               go_simp
               with_reducible rfl
              rotate_left
              ·simp only [Act.put, zA, zB, zC, i64_w, i32_w]
               rfl
              refine pure_ (i := 14) (N := some 82) (v := ?_) (a' := ?_) (bq_ 20 32767) rfl rfl (any_of HT_.out (by kernel_rfl)) (fun _ _ _ h => h) (Or.inl ⟨by rfl, ?_⟩) ?_ ?_
              rotate_left
              ·intro w'
               go_simp
               with_reducible rfl
              rotate_left
              ·simp only [Act.put, zA, zB, zC, i64_w, i32_w]
               rfl
              refine pure_ (i := 15) (N := some 83) (v := undef) (a' := ?_) (bq_ 20 65535) rfl rfl (any_of HT_.out (by kernel_rfl)) (fun _ _ _ h => h) (Or.inr ⟨by rfl, rfl⟩) ?_ ?_
              rotate_left
              ·simp only [Act.put, zA, zB, zC, i64_w, i32_w]
               rfl
              refine pure_ (i := 16) (N := some 84) (v := undef) (a' := ?_) (bq_ 20 131071) rfl rfl (any_of HT_.out (by kernel_rfl)) (fun _ _ _ h => h) (Or.inr ⟨by rfl, rfl⟩) ?_ ?_
              rotate_left
              ·simp only [Act.put, zA, zB, zC, i64_w, i32_w]
               rfl
              refine pure_ (i := 17) (N := some 85) (v := undef) (a' := ?_) (bq_ 20 262143) rfl rfl (any_of HT_.out (by kernel_rfl)) (fun _ _ _ h => h) (Or.inr ⟨by rfl, rfl⟩) ?_ ?_
              rotate_left
              ·simp only [Act.put, zA, zB, zC, i64_w, i32_w]
               rfl
              refine pure_ (i := 18) (N := some 86) (v := undef) (a' := ?_) (bq_ 20 524287) rfl rfl (any_of HT_.out (by kernel_rfl)) (fun _ _ _ h => h) (Or.inr ⟨by rfl, rfl⟩) ?_ ?_
              rotate_left
              ·simp only [Act.put, zA, zB, zC, i64_w, i32_w]
               rfl
              refine pure_ (i := 19) (N := some 87) (v := ?_) (a' := ?_) (bq_ 20 1048575) rfl rfl (any_of HT_.out (by kernel_rfl)) (fun _ _ _ h => h) (Or.inl ⟨by rfl, ?_⟩) ?_ ?_
              rotate_left
              ·intro w'
               go_simp
               with_reducible rfl
              rotate_left
              ·simp only [Act.put, zA, zB, zC, i64_w, i32_w]
               rfl
              refine done_ (done_of HT_.out (by kernel_rfl)) ?_
              try go_wp2
              go_ret
              exact ⟨by first | rfl | (simp [errW_none, errW_some] <;> rfl) | (simp [*, errW_none, errW_some] <;> rfl), by repeat (first | (with_reducible first | exact HB.out | apply below_alloc | apply pw_below_drewN | apply below_drew1 | refine below_set ?_ (IsS23.ge HI139.out) | refine below_set ?_ (IsS23.ge HI144.out) | refine below_set ?_ GE148.out | refine below_set ?_ GE152.out) | exact HB.out)⟩
             ·rw [if_neg c87] at H
              have c87b0 : (!(t187 == x149000_44) || (!(t188 == x149001_44) || (!(t189 == x149002_44)))) = false := by simpa using c87
              clear c87
              replace H := Option.bind_eq_some_iff.mp H
              obtain ⟨⟨t190, t191, t192⟩, A900, H⟩ := H
              replace H : (if (!(t190 == x153000_44) || (!(t191 == x153001_44) || (!(t192 == x153002_44)))) = true then (some false) else (wapentakelaw17_BucketPlays.l0 kj44 l3 (wrap64 (x12_2 + 1)) x140000_44 x140001_44 x140002_44 x145000_44 x145001_44 x145002_44 x149000_44 x149001_44 x149002_44 x153000_44 x153001_44 x153002_44)) = some r := H
              have A90 := Aside0.mk A900
              clear A900
              by_cases c91 : (!(t190 == x153000_44) || (!(t191 == x153001_44) || (!(t192 == x153002_44)))) = true
              ·rw [if_pos c91] at H
               have c91b0 : (!(t190 == x153000_44) || (!(t191 == x153001_44) || (!(t192 == x153002_44)))) = true := c91
               clear c91
               obtain rfl := Option.some.inj H
               try go_wp2
               have n0_ := Aside0.mk (blk_drew BK148.out)
               have n1_ := Aside0.mk (blk_drew BK152.out)
               have n2_ := Aside0.mk (IsS23.drew HI139.out)
               have n3_ := Aside0.mk (IsS23.drew HI144.out)
               have n4_ := Aside0.mk (below_drew1 HB.out)
               clear BK148
               clear BK152
               clear HI139
               clear HI144
               clear HB
               have BK148 := n0_
               have BK152 := n1_
               have HI139 := n2_
               have HI144 := n3_
               have HB := n4_
               clear n0_ n1_ n2_ n3_ n4_
               refine start_ (n := 20) (S := fun w' => w'.cell? ⟨gb139, 0, none⟩ = some (.int .i64 x140000_44) ∧ w'.cell? ⟨gb139, 1, none⟩ = some (.int .i64 x140001_44) ∧ w'.cell? ⟨gb139, 2, none⟩ = some (.int .i64 x140002_44) ∧ w'.cell? ⟨gb148, 0, none⟩ = some (.int .i64 x149000_44) ∧ w'.cell? ⟨gb148, 1, none⟩ = some (.int .i64 x149001_44) ∧ w'.cell? ⟨gb148, 2, none⟩ = some (.int .i64 x149002_44) ∧ w'.cell? ⟨gb144, 0, none⟩ = some (.int .i64 x145000_44) ∧ w'.cell? ⟨gb144, 1, none⟩ = some (.int .i64 x145001_44) ∧ w'.cell? ⟨gb144, 2, none⟩ = some (.int .i64 x145002_44) ∧ w'.cell? ⟨gb152, 0, none⟩ = some (.int .i64 x153000_44) ∧ w'.cell? ⟨gb152, 1, none⟩ = some (.int .i64 x153001_44) ∧ w'.cell? ⟨gb152, 2, none⟩ = some (.int .i64 x153002_44)) (ds := []) #[false, false, false, false, false, false, false, false, false, false, false, false, false, false, false, false, false, false, false, false] (by kernel_rfl) rfl rfl ⟨(blk_cell HI139.out.1 0).trans rfl, (blk_cell HI139.out.1 1).trans rfl, (blk_cell HI139.out.1 2).trans rfl, (blk_cell BK148.out 0).trans rfl, (blk_cell BK148.out 1).trans rfl, (blk_cell BK148.out 2).trans rfl, (blk_cell HI144.out.1 0).trans rfl, (blk_cell HI144.out.1 1).trans rfl, (blk_cell HI144.out.1 2).trans rfl, (blk_cell BK152.out 0).trans rfl, (blk_cell BK152.out 1).trans rfl, (blk_cell BK152.out 2).trans rfl⟩ (fun hHeld => ?_); refine with_tabW wapentakelaw17_BucketPlays.tab21 wapentakelaw17_BucketPlays.bits21 (fun HT_ HW_ => ?_)
               generalize wc.drew = w92 at BK148 BK152 HI139 HI144 HB hHeld ⊢
               refine pure_ (i := 0) (N := some 68) (v := ?_) (a' := ?_) (bq_ 20 1) rfl rfl (any_of HT_.out (by kernel_rfl)) (fun _ _ _ h => h) (Or.inl ⟨by rfl, ?_⟩) ?_ ?_
               rotate_left
               ·intro w'
                go_simp
                with_reducible rfl
               rotate_left
               ·simp only [Act.put, zA, zB, zC, i64_w, i32_w]
                rfl
               refine pure_ (i := 1) (N := some 69) (v := ?_) (a' := ?_) (bq_ 20 3) rfl rfl (any_of HT_.out (by kernel_rfl)) (fun _ _ _ h => h) (Or.inl ⟨by rfl, ?_⟩) ?_ ?_
               rotate_left
               ·intro w'
                go_simp
                with_reducible rfl
               rotate_left
               ·simp only [Act.put, zA, zB, zC, i64_w, i32_w]
                rfl
               refine pure_ (i := 2) (N := some 70) (v := ?_) (a' := ?_) (bq_ 20 7) rfl rfl (any_of HT_.out (by kernel_rfl)) (fun _ _ _ h => h) (Or.inl ⟨by rfl, ?_⟩) ?_ ?_
               rotate_left
               ·intro w'
                go_simp
                with_reducible rfl
               rotate_left
               ·simp only [Act.put, zA, zB, zC, i64_w, i32_w]
                rfl
               refine pure_ (i := 3) (N := some 71) (v := ?_) (a' := ?_) (bq_ 20 15) rfl rfl (any_of HT_.out (by kernel_rfl)) (fun _ _ _ h => h) (Or.inl ⟨by rfl, ?_⟩) ?_ ?_
               rotate_left
               ·intro w'
                go_simp
                with_reducible rfl
               rotate_left
               ·simp only [Act.put, zA, zB, zC, i64_w, i32_w]
                rfl
               refine pure_ (i := 4) (N := some 72) (v := ?_) (a' := ?_) (bq_ 20 31) rfl rfl (any_of HT_.out (by kernel_rfl)) (fun _ _ _ h => h) (Or.inl ⟨by rfl, ?_⟩) ?_ ?_
               rotate_left
               ·intro w'
                go_simp
                with_reducible rfl
               rotate_left
               ·simp only [Act.put, zA, zB, zC, i64_w, i32_w]
                rfl
               refine pure_ (i := 5) (N := some 73) (v := ?_) (a' := ?_) (bq_ 20 63) rfl rfl (any_of HT_.out (by kernel_rfl)) (fun _ _ _ h => h) (Or.inl ⟨by rfl, ?_⟩) ?_ ?_
               rotate_left
               ·intro w'
                go_simp
                with_reducible rfl
               rotate_left
               ·simp only [Act.put, zA, zB, zC, i64_w, i32_w]
                rfl
               refine pure_ (i := 6) (N := some 74) (v := ?_) (a' := ?_) (bq_ 20 127) rfl rfl (any_of HT_.out (by kernel_rfl)) (fun _ _ _ h => h) (Or.inl ⟨by rfl, ?_⟩) ?_ ?_
               rotate_left
               ·intro w'
                go_simp
                with_reducible rfl
               rotate_left
               ·simp only [Act.put, zA, zB, zC, i64_w, i32_w]
                rfl
               refine pure_ (i := 7) (N := some 75) (v := ?_) (a' := ?_) (bq_ 20 255) rfl rfl (any_of HT_.out (by kernel_rfl)) (fun _ _ _ h => h) (Or.inl ⟨by rfl, ?_⟩) ?_ ?_
               rotate_left
               ·intro w'
                go_simp
                with_reducible rfl
               rotate_left
               ·simp only [Act.put, zA, zB, zC, i64_w, i32_w]
                rfl
               refine pure_ (i := 8) (N := some 76) (v := ?_) (a' := ?_) (bq_ 20 511) rfl rfl (any_of HT_.out (by kernel_rfl)) (fun _ _ _ h => h) (Or.inl ⟨by rfl, ?_⟩) ?_ ?_
               rotate_left
               ·intro w'
                go_simp
                with_reducible rfl
               rotate_left
               ·simp only [Act.put, zA, zB, zC, i64_w, i32_w]
                rfl
               refine take_ (i := 9) (N := some 77) (v := ?_) (a' := ?_) (bq_ 20 1023) rfl rfl (take_ofW HT_.out HW_.out (by kernel_rfl)) (fun _ _ _ h => h) (Or.inl ⟨by rfl, ?_⟩) hHeld ?_ ?_
               rotate_left
               ·rintro w' ⟨s0, s1, s2, s3, s4, s5, s6, s7, s8, s9, s10, s11⟩
                go_simp
                with_reducible rfl
               rotate_left
               ·simp only [Act.put, zA, zB, zC, i64_w, i32_w]
                rfl
               refine take_ (i := 11) (N := some 79) (v := ?_) (a' := ?_) (bq_ 20 3071) rfl rfl (take_ofW HT_.out HW_.out (by kernel_rfl)) (fun _ _ _ h => h) (Or.inl ⟨by rfl, ?_⟩) hHeld ?_ ?_
               rotate_left
               ·rintro w' ⟨s0, s1, s2, s3, s4, s5, s6, s7, s8, s9, s10, s11⟩
                go_simp
                with_reducible rfl
               rotate_left
               ·simp only [Act.put, zA, zB, zC, i64_w, i32_w]
                rfl
               refine one_ (i := 10) (N := some 78) (bq_ 20 4095) rfl rfl (one_of HT_.out (by kernel_rfl)) (by decide) (fun K hK => ?_)
               refine goes_ Try.func11 (by kernel_rfl) rfl #[.agg #[.int .i64 x140000_44, .int .i64 x140001_44, .int .i64 x140002_44]] (by rfl) rfl rfl (by (try simp only [List.map_toArray, List.map_cons, List.map_nil]); first | done | rfl | (simp only [List.length_drop, List.length_take]; rfl)) ?_
               with_reducible refine (wapentakelaw17_given.calls x140000_44 x140001_44 x140002_44 t187 t188 t189 _ A86.out).mono ?_
               rintro e w93 ⟨rfl, hb⟩
               refine ⟨_, rfl, ?_⟩
               have n0_ := Aside0.mk (blk_below (g := gb148) (o := .cells #[.int .i64 x149000_44, .int .i64 x149001_44, .int .i64 x149002_44] 27 (0, 0)) (by (with_reducible repeat (first | refine blk_drewN ?_ _ | refine blk_drew ?_ | refine blk_alloc ?_ _)); exact BK148.out) hb)
               have n1_ := Aside0.mk (blk_below (g := gb152) (o := .cells #[.int .i64 x153000_44, .int .i64 x153001_44, .int .i64 x153002_44] 27 (0, 0)) (by (with_reducible repeat (first | refine blk_drewN ?_ _ | refine blk_drew ?_ | refine blk_alloc ?_ _)); exact BK152.out) hb)
               have n2_ := Aside0.mk (IsS23.below (by repeat (first | (with_reducible first | exact HI139.out | apply IsS23.alloc | apply IsS23.drewN | apply IsS23.drew | apply IsS23.set_0 | apply IsS23.set_1 | apply IsS23.set_2 | refine IsS23.far ?_ NB139_148.out _ | refine IsS23.far ?_ NB139_152.out _ | refine IsS23.far ?_ NB139_144.out _) | exact HI139.out)) hb)
               have n3_ := Aside0.mk (IsS23.below (by repeat (first | (with_reducible first | exact HI144.out | apply IsS23.alloc | apply IsS23.drewN | apply IsS23.drew | apply IsS23.set_0 | apply IsS23.set_1 | apply IsS23.set_2 | refine IsS23.far ?_ NB144_148.out _ | refine IsS23.far ?_ NB144_152.out _ | refine IsS23.far ?_ NB144_139.out _) | exact HI144.out)) hb)
               have n4_ := Aside0.mk (below_step (by repeat (first | (with_reducible first | exact HB.out | apply below_alloc | apply pw_below_drewN | apply below_drew1 | refine below_set ?_ (IsS23.ge HI139.out) | refine below_set ?_ (IsS23.ge HI144.out) | refine below_set ?_ GE148.out | refine below_set ?_ GE152.out) | exact HB.out)) hb)
               clear BK148
               clear BK152
               clear HI139
               clear HI144
               clear HB
               have BK148 := n0_
               have BK152 := n1_
               have HI139 := n2_
               have HI144 := n3_
               have HB := n4_
               clear n0_ n1_ n2_ n3_ n4_
               (try clear hb)
               (try clear hb2)
               (try clear hk)
               (try clear hi)
               refine hK.out _ _ ⟨(blk_cell HI139.out.1 0).trans rfl, (blk_cell HI139.out.1 1).trans rfl, (blk_cell HI139.out.1 2).trans rfl, (blk_cell BK148.out 0).trans rfl, (blk_cell BK148.out 1).trans rfl, (blk_cell BK148.out 2).trans rfl, (blk_cell HI144.out.1 0).trans rfl, (blk_cell HI144.out.1 1).trans rfl, (blk_cell HI144.out.1 2).trans rfl, (blk_cell BK152.out 0).trans rfl, (blk_cell BK152.out 1).trans rfl, (blk_cell BK152.out 2).trans rfl⟩ (fun hHeld => ?_)
               clear hK K
               refine norm_ (a' := ?_) ?_ ?_
               rotate_left
               ·show Act.put _ (some 78) _ = _
                simp only [Act.put, zA, zB, zC, i64_w, i32_w]
                rfl
               refine pure_ (i := 12) (N := some 80) (v := ?_) (a' := ?_) (bq_ 20 8191) rfl rfl (any_of HT_.out (by kernel_rfl)) (fun _ _ _ h => h) (Or.inl ⟨by rfl, ?_⟩) ?_ ?_
               rotate_left
               ·intro w'
                go_simp
                with_reducible rfl
               rotate_left
               ·simp only [Act.put, zA, zB, zC, i64_w, i32_w]
                rfl
               refine pure_ (i := 13) (N := some 81) (v := ?_) (a' := ?_) (bq_ 20 16383) rfl rfl (any_of HT_.out (by kernel_rfl)) (fun _ _ _ h => h) (Or.inl ⟨by rfl, ?_⟩) ?_ ?_
               rotate_left
               ·intro w'
                go_simp
                with_reducible rfl
               rotate_left
               ·simp only [Act.put, zA, zB, zC, i64_w, i32_w]
                rfl
               refine pure_ (i := 14) (N := some 82) (v := ?_) (a' := ?_) (bq_ 20 32767) rfl rfl (any_of HT_.out (by kernel_rfl)) (fun _ _ _ h => h) (Or.inl ⟨by rfl, ?_⟩) ?_ ?_
               rotate_left
               ·intro w'
                go_simp
                with_reducible rfl
               rotate_left
               ·simp only [Act.put, zA, zB, zC, i64_w, i32_w]
                rfl
               refine take_ (i := 15) (N := some 83) (v := ?_) (a' := ?_) (bq_ 20 65535) rfl rfl (take_ofW HT_.out HW_.out (by kernel_rfl)) (fun _ _ _ h => h) (Or.inl ⟨by rfl, ?_⟩) hHeld ?_ ?_
               rotate_left
               ·rintro w' ⟨s0, s1, s2, s3, s4, s5, s6, s7, s8, s9, s10, s11⟩
                go_simp
                with_reducible rfl
               rotate_left
               ·simp only [Act.put, zA, zB, zC, i64_w, i32_w]
                rfl
               refine take_ (i := 17) (N := some 85) (v := ?_) (a' := ?_) (bq_ 20 196607) rfl rfl (take_ofW HT_.out HW_.out (by kernel_rfl)) (fun _ _ _ h => h) (Or.inl ⟨by rfl, ?_⟩) hHeld ?_ ?_
               rotate_left
               ·rintro w' ⟨s0, s1, s2, s3, s4, s5, s6, s7, s8, s9, s10, s11⟩
                go_simp
                with_reducible rfl
               rotate_left
               ·simp only [Act.put, zA, zB, zC, i64_w, i32_w]
                rfl
               refine one_ (i := 16) (N := some 84) (bq_ 20 262143) rfl rfl (one_of HT_.out (by kernel_rfl)) (by decide) (fun K hK => ?_)
               refine goes_ Try.func11 (by kernel_rfl) rfl #[.agg #[.int .i64 x145000_44, .int .i64 x145001_44, .int .i64 x145002_44]] (by rfl) rfl rfl (by (try simp only [List.map_toArray, List.map_cons, List.map_nil]); first | done | rfl | (simp only [List.length_drop, List.length_take]; rfl)) ?_
               with_reducible refine (wapentakelaw17_given.calls x145000_44 x145001_44 x145002_44 t190 t191 t192 _ A90.out).mono ?_
               rintro e w94 ⟨rfl, hb⟩
               refine ⟨_, rfl, ?_⟩
               have n0_ := Aside0.mk (blk_below (g := gb148) (o := .cells #[.int .i64 x149000_44, .int .i64 x149001_44, .int .i64 x149002_44] 27 (0, 0)) (by (with_reducible repeat (first | refine blk_drewN ?_ _ | refine blk_drew ?_ | refine blk_alloc ?_ _)); exact BK148.out) hb)
               have n1_ := Aside0.mk (blk_below (g := gb152) (o := .cells #[.int .i64 x153000_44, .int .i64 x153001_44, .int .i64 x153002_44] 27 (0, 0)) (by (with_reducible repeat (first | refine blk_drewN ?_ _ | refine blk_drew ?_ | refine blk_alloc ?_ _)); exact BK152.out) hb)
               have n2_ := Aside0.mk (IsS23.below (by repeat (first | (with_reducible first | exact HI139.out | apply IsS23.alloc | apply IsS23.drewN | apply IsS23.drew | apply IsS23.set_0 | apply IsS23.set_1 | apply IsS23.set_2 | refine IsS23.far ?_ NB139_148.out _ | refine IsS23.far ?_ NB139_152.out _ | refine IsS23.far ?_ NB139_144.out _) | exact HI139.out)) hb)
               have n3_ := Aside0.mk (IsS23.below (by repeat (first | (with_reducible first | exact HI144.out | apply IsS23.alloc | apply IsS23.drewN | apply IsS23.drew | apply IsS23.set_0 | apply IsS23.set_1 | apply IsS23.set_2 | refine IsS23.far ?_ NB144_148.out _ | refine IsS23.far ?_ NB144_152.out _ | refine IsS23.far ?_ NB144_139.out _) | exact HI144.out)) hb)
               have n4_ := Aside0.mk (below_step (by repeat (first | (with_reducible first | exact HB.out | apply below_alloc | apply pw_below_drewN | apply below_drew1 | refine below_set ?_ (IsS23.ge HI139.out) | refine below_set ?_ (IsS23.ge HI144.out) | refine below_set ?_ GE148.out | refine below_set ?_ GE152.out) | exact HB.out)) hb)
               clear BK148
               clear BK152
               clear HI139
               clear HI144
               clear HB
               have BK148 := n0_
               have BK152 := n1_
               have HI139 := n2_
               have HI144 := n3_
               have HB := n4_
               clear n0_ n1_ n2_ n3_ n4_
               (try clear hb)
               (try clear hb2)
               (try clear hk)
               (try clear hi)
               refine hK.out _ _ ⟨(blk_cell HI139.out.1 0).trans rfl, (blk_cell HI139.out.1 1).trans rfl, (blk_cell HI139.out.1 2).trans rfl, (blk_cell BK148.out 0).trans rfl, (blk_cell BK148.out 1).trans rfl, (blk_cell BK148.out 2).trans rfl, (blk_cell HI144.out.1 0).trans rfl, (blk_cell HI144.out.1 1).trans rfl, (blk_cell HI144.out.1 2).trans rfl, (blk_cell BK152.out 0).trans rfl, (blk_cell BK152.out 1).trans rfl, (blk_cell BK152.out 2).trans rfl⟩ (fun hHeld => ?_)
               clear hK K
               refine norm_ (a' := ?_) ?_ ?_
               rotate_left
               ·show Act.put _ (some 84) _ = _
                simp only [Act.put, zA, zB, zC, i64_w, i32_w]
                rfl
               refine pure_ (i := 18) (N := some 86) (v := ?_) (a' := ?_) (bq_ 20 524287) rfl rfl (any_of HT_.out (by kernel_rfl)) (fun _ _ _ h => h) (Or.inl ⟨by rfl, ?_⟩) ?_ ?_
               rotate_left
               ·intro w'
                go_simp
                with_reducible rfl
               rotate_left
               ·simp only [Act.put, zA, zB, zC, i64_w, i32_w]
                rfl
               refine pure_ (i := 19) (N := some 87) (v := ?_) (a' := ?_) (bq_ 20 1048575) rfl rfl (any_of HT_.out (by kernel_rfl)) (fun _ _ _ h => h) (Or.inl ⟨by rfl, ?_⟩) ?_ ?_
               rotate_left
               ·intro w'
                go_simp
                with_reducible rfl
               rotate_left
               ·simp only [Act.put, zA, zB, zC, i64_w, i32_w]
                rfl
               refine done_ (done_of HT_.out (by kernel_rfl)) ?_
               try go_wp2
               go_ret
               exact ⟨by first | rfl | (simp [errW_none, errW_some] <;> rfl) | (simp [*, errW_none, errW_some] <;> rfl), by repeat (first | (with_reducible first | exact HB.out | apply below_alloc | apply pw_below_drewN | apply below_drew1 | refine below_set ?_ (IsS23.ge HI139.out) | refine below_set ?_ (IsS23.ge HI144.out) | refine below_set ?_ GE148.out | refine below_set ?_ GE152.out) | exact HB.out)⟩
              ·rw [if_neg c91] at H
               have c91b0 : (!(t190 == x153000_44) || (!(t191 == x153001_44) || (!(t192 == x153002_44)))) = false := by simpa using c91
               clear c91
               have H' := Aside0.mk H
               clear H
               try go_wp2
               have n0_ := Aside0.mk (blk_drew BK148.out)
               have n1_ := Aside0.mk (blk_drew BK152.out)
               have n2_ := Aside0.mk (IsS23.drew HI139.out)
               have n3_ := Aside0.mk (IsS23.drew HI144.out)
               have n4_ := Aside0.mk (below_drew1 HB.out)
               clear BK148
               clear BK152
               clear HI139
               clear HI144
               clear HB
               have BK148 := n0_
               have BK152 := n1_
               have HI139 := n2_
               have HI144 := n3_
               have HB := n4_
               clear n0_ n1_ n2_ n3_ n4_
               refine start_ (n := 20) (S := fun w' => w'.cell? ⟨gb139, 0, none⟩ = some (.int .i64 x140000_44) ∧ w'.cell? ⟨gb139, 1, none⟩ = some (.int .i64 x140001_44) ∧ w'.cell? ⟨gb139, 2, none⟩ = some (.int .i64 x140002_44) ∧ w'.cell? ⟨gb148, 0, none⟩ = some (.int .i64 x149000_44) ∧ w'.cell? ⟨gb148, 1, none⟩ = some (.int .i64 x149001_44) ∧ w'.cell? ⟨gb148, 2, none⟩ = some (.int .i64 x149002_44) ∧ w'.cell? ⟨gb144, 0, none⟩ = some (.int .i64 x145000_44) ∧ w'.cell? ⟨gb144, 1, none⟩ = some (.int .i64 x145001_44) ∧ w'.cell? ⟨gb144, 2, none⟩ = some (.int .i64 x145002_44) ∧ w'.cell? ⟨gb152, 0, none⟩ = some (.int .i64 x153000_44) ∧ w'.cell? ⟨gb152, 1, none⟩ = some (.int .i64 x153001_44) ∧ w'.cell? ⟨gb152, 2, none⟩ = some (.int .i64 x153002_44)) (ds := []) #[false, false, false, false, false, false, false, false, false, false, false, false, false, false, false, false, false, false, false, false] (by kernel_rfl) rfl rfl ⟨(blk_cell HI139.out.1 0).trans rfl, (blk_cell HI139.out.1 1).trans rfl, (blk_cell HI139.out.1 2).trans rfl, (blk_cell BK148.out 0).trans rfl, (blk_cell BK148.out 1).trans rfl, (blk_cell BK148.out 2).trans rfl, (blk_cell HI144.out.1 0).trans rfl, (blk_cell HI144.out.1 1).trans rfl, (blk_cell HI144.out.1 2).trans rfl, (blk_cell BK152.out 0).trans rfl, (blk_cell BK152.out 1).trans rfl, (blk_cell BK152.out 2).trans rfl⟩ (fun hHeld => ?_); refine with_tabW wapentakelaw17_BucketPlays.tab21 wapentakelaw17_BucketPlays.bits21 (fun HT_ HW_ => ?_)
               generalize wc.drew = w95 at BK148 BK152 HI139 HI144 HB hHeld ⊢
               refine pure_ (i := 0) (N := some 68) (v := ?_) (a' := ?_) (bq_ 20 1) rfl rfl (any_of HT_.out (by kernel_rfl)) (fun _ _ _ h => h) (Or.inl ⟨by rfl, ?_⟩) ?_ ?_
               rotate_left
               ·intro w'
                go_simp
                with_reducible rfl
               rotate_left
               ·simp only [Act.put, zA, zB, zC, i64_w, i32_w]
                rfl
               refine pure_ (i := 1) (N := some 69) (v := ?_) (a' := ?_) (bq_ 20 3) rfl rfl (any_of HT_.out (by kernel_rfl)) (fun _ _ _ h => h) (Or.inl ⟨by rfl, ?_⟩) ?_ ?_
               rotate_left
               ·intro w'
                go_simp
                with_reducible rfl
               rotate_left
               ·simp only [Act.put, zA, zB, zC, i64_w, i32_w]
                rfl
               refine pure_ (i := 2) (N := some 70) (v := ?_) (a' := ?_) (bq_ 20 7) rfl rfl (any_of HT_.out (by kernel_rfl)) (fun _ _ _ h => h) (Or.inl ⟨by rfl, ?_⟩) ?_ ?_
               rotate_left
               ·intro w'
                go_simp
                with_reducible rfl
               rotate_left
               ·simp only [Act.put, zA, zB, zC, i64_w, i32_w]
                rfl
               refine pure_ (i := 3) (N := some 71) (v := ?_) (a' := ?_) (bq_ 20 15) rfl rfl (any_of HT_.out (by kernel_rfl)) (fun _ _ _ h => h) (Or.inl ⟨by rfl, ?_⟩) ?_ ?_
               rotate_left
               ·intro w'
                go_simp
                with_reducible rfl
               rotate_left
               ·simp only [Act.put, zA, zB, zC, i64_w, i32_w]
                rfl
               refine pure_ (i := 4) (N := some 72) (v := ?_) (a' := ?_) (bq_ 20 31) rfl rfl (any_of HT_.out (by kernel_rfl)) (fun _ _ _ h => h) (Or.inl ⟨by rfl, ?_⟩) ?_ ?_
               rotate_left
               ·intro w'
                go_simp
                with_reducible rfl
               rotate_left
               ·simp only [Act.put, zA, zB, zC, i64_w, i32_w]
                rfl
               refine pure_ (i := 5) (N := some 73) (v := ?_) (a' := ?_) (bq_ 20 63) rfl rfl (any_of HT_.out (by kernel_rfl)) (fun _ _ _ h => h) (Or.inl ⟨by rfl, ?_⟩) ?_ ?_
               rotate_left
               ·intro w'
                go_simp
                with_reducible rfl
               rotate_left
               ·simp only [Act.put, zA, zB, zC, i64_w, i32_w]
                rfl
               refine pure_ (i := 6) (N := some 74) (v := ?_) (a' := ?_) (bq_ 20 127) rfl rfl (any_of HT_.out (by kernel_rfl)) (fun _ _ _ h => h) (Or.inl ⟨by rfl, ?_⟩) ?_ ?_
               rotate_left
               ·intro w'
                go_simp
                with_reducible rfl
               rotate_left
               ·simp only [Act.put, zA, zB, zC, i64_w, i32_w]
                rfl
               refine pure_ (i := 7) (N := some 75) (v := ?_) (a' := ?_) (bq_ 20 255) rfl rfl (any_of HT_.out (by kernel_rfl)) (fun _ _ _ h => h) (Or.inl ⟨by rfl, ?_⟩) ?_ ?_
               rotate_left
               ·intro w'
                go_simp
                with_reducible rfl
               rotate_left
               ·simp only [Act.put, zA, zB, zC, i64_w, i32_w]
                rfl
               refine pure_ (i := 8) (N := some 76) (v := ?_) (a' := ?_) (bq_ 20 511) rfl rfl (any_of HT_.out (by kernel_rfl)) (fun _ _ _ h => h) (Or.inl ⟨by rfl, ?_⟩) ?_ ?_
               rotate_left
               ·intro w'
                go_simp
                with_reducible rfl
               rotate_left
               ·simp only [Act.put, zA, zB, zC, i64_w, i32_w]
                rfl
               refine take_ (i := 9) (N := some 77) (v := ?_) (a' := ?_) (bq_ 20 1023) rfl rfl (take_ofW HT_.out HW_.out (by kernel_rfl)) (fun _ _ _ h => h) (Or.inl ⟨by rfl, ?_⟩) hHeld ?_ ?_
               rotate_left
               ·rintro w' ⟨s0, s1, s2, s3, s4, s5, s6, s7, s8, s9, s10, s11⟩
                go_simp
                with_reducible rfl
               rotate_left
               ·simp only [Act.put, zA, zB, zC, i64_w, i32_w]
                rfl
               refine take_ (i := 11) (N := some 79) (v := ?_) (a' := ?_) (bq_ 20 3071) rfl rfl (take_ofW HT_.out HW_.out (by kernel_rfl)) (fun _ _ _ h => h) (Or.inl ⟨by rfl, ?_⟩) hHeld ?_ ?_
               rotate_left
               ·rintro w' ⟨s0, s1, s2, s3, s4, s5, s6, s7, s8, s9, s10, s11⟩
                go_simp
                with_reducible rfl
               rotate_left
               ·simp only [Act.put, zA, zB, zC, i64_w, i32_w]
                rfl
               refine one_ (i := 10) (N := some 78) (bq_ 20 4095) rfl rfl (one_of HT_.out (by kernel_rfl)) (by decide) (fun K hK => ?_)
               refine goes_ Try.func11 (by kernel_rfl) rfl #[.agg #[.int .i64 x140000_44, .int .i64 x140001_44, .int .i64 x140002_44]] (by rfl) rfl rfl (by (try simp only [List.map_toArray, List.map_cons, List.map_nil]); first | done | rfl | (simp only [List.length_drop, List.length_take]; rfl)) ?_
               with_reducible refine (wapentakelaw17_given.calls x140000_44 x140001_44 x140002_44 t187 t188 t189 _ A86.out).mono ?_
               rintro e w96 ⟨rfl, hb⟩
               refine ⟨_, rfl, ?_⟩
               have n0_ := Aside0.mk (blk_below (g := gb148) (o := .cells #[.int .i64 x149000_44, .int .i64 x149001_44, .int .i64 x149002_44] 27 (0, 0)) (by (with_reducible repeat (first | refine blk_drewN ?_ _ | refine blk_drew ?_ | refine blk_alloc ?_ _)); exact BK148.out) hb)
               have n1_ := Aside0.mk (blk_below (g := gb152) (o := .cells #[.int .i64 x153000_44, .int .i64 x153001_44, .int .i64 x153002_44] 27 (0, 0)) (by (with_reducible repeat (first | refine blk_drewN ?_ _ | refine blk_drew ?_ | refine blk_alloc ?_ _)); exact BK152.out) hb)
               have n2_ := Aside0.mk (IsS23.below (by repeat (first | (with_reducible first | exact HI139.out | apply IsS23.alloc | apply IsS23.drewN | apply IsS23.drew | apply IsS23.set_0 | apply IsS23.set_1 | apply IsS23.set_2 | refine IsS23.far ?_ NB139_148.out _ | refine IsS23.far ?_ NB139_152.out _ | refine IsS23.far ?_ NB139_144.out _) | exact HI139.out)) hb)
               have n3_ := Aside0.mk (IsS23.below (by repeat (first | (with_reducible first | exact HI144.out | apply IsS23.alloc | apply IsS23.drewN | apply IsS23.drew | apply IsS23.set_0 | apply IsS23.set_1 | apply IsS23.set_2 | refine IsS23.far ?_ NB144_148.out _ | refine IsS23.far ?_ NB144_152.out _ | refine IsS23.far ?_ NB144_139.out _) | exact HI144.out)) hb)
               have n4_ := Aside0.mk (below_step (by repeat (first | (with_reducible first | exact HB.out | apply below_alloc | apply pw_below_drewN | apply below_drew1 | refine below_set ?_ (IsS23.ge HI139.out) | refine below_set ?_ (IsS23.ge HI144.out) | refine below_set ?_ GE148.out | refine below_set ?_ GE152.out) | exact HB.out)) hb)
               clear BK148
               clear BK152
               clear HI139
               clear HI144
               clear HB
               have BK148 := n0_
               have BK152 := n1_
               have HI139 := n2_
               have HI144 := n3_
               have HB := n4_
               clear n0_ n1_ n2_ n3_ n4_
               (try clear hb)
               (try clear hb2)
               (try clear hk)
               (try clear hi)
               refine hK.out _ _ ⟨(blk_cell HI139.out.1 0).trans rfl, (blk_cell HI139.out.1 1).trans rfl, (blk_cell HI139.out.1 2).trans rfl, (blk_cell BK148.out 0).trans rfl, (blk_cell BK148.out 1).trans rfl, (blk_cell BK148.out 2).trans rfl, (blk_cell HI144.out.1 0).trans rfl, (blk_cell HI144.out.1 1).trans rfl, (blk_cell HI144.out.1 2).trans rfl, (blk_cell BK152.out 0).trans rfl, (blk_cell BK152.out 1).trans rfl, (blk_cell BK152.out 2).trans rfl⟩ (fun hHeld => ?_)
               clear hK K
               refine norm_ (a' := ?_) ?_ ?_
               rotate_left
               ·show Act.put _ (some 78) _ = _
                simp only [Act.put, zA, zB, zC, i64_w, i32_w]
                rfl
               refine pure_ (i := 12) (N := some 80) (v := ?_) (a' := ?_) (bq_ 20 8191) rfl rfl (any_of HT_.out (by kernel_rfl)) (fun _ _ _ h => h) (Or.inl ⟨by rfl, ?_⟩) ?_ ?_
               rotate_left
               ·intro w'
                go_simp
                with_reducible rfl
               rotate_left
               ·simp only [Act.put, zA, zB, zC, i64_w, i32_w]
                rfl
               refine pure_ (i := 13) (N := some 81) (v := ?_) (a' := ?_) (bq_ 20 16383) rfl rfl (any_of HT_.out (by kernel_rfl)) (fun _ _ _ h => h) (Or.inl ⟨by rfl, ?_⟩) ?_ ?_
               rotate_left
               ·intro w'
                go_simp
                with_reducible rfl
               rotate_left
               ·simp only [Act.put, zA, zB, zC, i64_w, i32_w]
                rfl
               refine pure_ (i := 14) (N := some 82) (v := ?_) (a' := ?_) (bq_ 20 32767) rfl rfl (any_of HT_.out (by kernel_rfl)) (fun _ _ _ h => h) (Or.inl ⟨by rfl, ?_⟩) ?_ ?_
               rotate_left
               ·intro w'
                go_simp
                with_reducible rfl
               rotate_left
               ·simp only [Act.put, zA, zB, zC, i64_w, i32_w]
                rfl
               refine take_ (i := 15) (N := some 83) (v := ?_) (a' := ?_) (bq_ 20 65535) rfl rfl (take_ofW HT_.out HW_.out (by kernel_rfl)) (fun _ _ _ h => h) (Or.inl ⟨by rfl, ?_⟩) hHeld ?_ ?_
               rotate_left
               ·rintro w' ⟨s0, s1, s2, s3, s4, s5, s6, s7, s8, s9, s10, s11⟩
                go_simp
                with_reducible rfl
               rotate_left
               ·simp only [Act.put, zA, zB, zC, i64_w, i32_w]
                rfl
               refine take_ (i := 17) (N := some 85) (v := ?_) (a' := ?_) (bq_ 20 196607) rfl rfl (take_ofW HT_.out HW_.out (by kernel_rfl)) (fun _ _ _ h => h) (Or.inl ⟨by rfl, ?_⟩) hHeld ?_ ?_
               rotate_left
               ·rintro w' ⟨s0, s1, s2, s3, s4, s5, s6, s7, s8, s9, s10, s11⟩
                go_simp
                with_reducible rfl
               rotate_left
               ·simp only [Act.put, zA, zB, zC, i64_w, i32_w]
                rfl
               refine one_ (i := 16) (N := some 84) (bq_ 20 262143) rfl rfl (one_of HT_.out (by kernel_rfl)) (by decide) (fun K hK => ?_)
               refine goes_ Try.func11 (by kernel_rfl) rfl #[.agg #[.int .i64 x145000_44, .int .i64 x145001_44, .int .i64 x145002_44]] (by rfl) rfl rfl (by (try simp only [List.map_toArray, List.map_cons, List.map_nil]); first | done | rfl | (simp only [List.length_drop, List.length_take]; rfl)) ?_
               with_reducible refine (wapentakelaw17_given.calls x145000_44 x145001_44 x145002_44 t190 t191 t192 _ A90.out).mono ?_
               rintro e w97 ⟨rfl, hb⟩
               refine ⟨_, rfl, ?_⟩
               have n0_ := Aside0.mk (blk_below (g := gb148) (o := .cells #[.int .i64 x149000_44, .int .i64 x149001_44, .int .i64 x149002_44] 27 (0, 0)) (by (with_reducible repeat (first | refine blk_drewN ?_ _ | refine blk_drew ?_ | refine blk_alloc ?_ _)); exact BK148.out) hb)
               have n1_ := Aside0.mk (blk_below (g := gb152) (o := .cells #[.int .i64 x153000_44, .int .i64 x153001_44, .int .i64 x153002_44] 27 (0, 0)) (by (with_reducible repeat (first | refine blk_drewN ?_ _ | refine blk_drew ?_ | refine blk_alloc ?_ _)); exact BK152.out) hb)
               have n2_ := Aside0.mk (IsS23.below (by repeat (first | (with_reducible first | exact HI139.out | apply IsS23.alloc | apply IsS23.drewN | apply IsS23.drew | apply IsS23.set_0 | apply IsS23.set_1 | apply IsS23.set_2 | refine IsS23.far ?_ NB139_148.out _ | refine IsS23.far ?_ NB139_152.out _ | refine IsS23.far ?_ NB139_144.out _) | exact HI139.out)) hb)
               have n3_ := Aside0.mk (IsS23.below (by repeat (first | (with_reducible first | exact HI144.out | apply IsS23.alloc | apply IsS23.drewN | apply IsS23.drew | apply IsS23.set_0 | apply IsS23.set_1 | apply IsS23.set_2 | refine IsS23.far ?_ NB144_148.out _ | refine IsS23.far ?_ NB144_152.out _ | refine IsS23.far ?_ NB144_139.out _) | exact HI144.out)) hb)
               have n4_ := Aside0.mk (below_step (by repeat (first | (with_reducible first | exact HB.out | apply below_alloc | apply pw_below_drewN | apply below_drew1 | refine below_set ?_ (IsS23.ge HI139.out) | refine below_set ?_ (IsS23.ge HI144.out) | refine below_set ?_ GE148.out | refine below_set ?_ GE152.out) | exact HB.out)) hb)
               clear BK148
               clear BK152
               clear HI139
               clear HI144
               clear HB
               have BK148 := n0_
               have BK152 := n1_
               have HI139 := n2_
               have HI144 := n3_
               have HB := n4_
               clear n0_ n1_ n2_ n3_ n4_
               (try clear hb)
               (try clear hb2)
               (try clear hk)
               (try clear hi)
               refine hK.out _ _ ⟨(blk_cell HI139.out.1 0).trans rfl, (blk_cell HI139.out.1 1).trans rfl, (blk_cell HI139.out.1 2).trans rfl, (blk_cell BK148.out 0).trans rfl, (blk_cell BK148.out 1).trans rfl, (blk_cell BK148.out 2).trans rfl, (blk_cell HI144.out.1 0).trans rfl, (blk_cell HI144.out.1 1).trans rfl, (blk_cell HI144.out.1 2).trans rfl, (blk_cell BK152.out 0).trans rfl, (blk_cell BK152.out 1).trans rfl, (blk_cell BK152.out 2).trans rfl⟩ (fun hHeld => ?_)
               clear hK K
               refine norm_ (a' := ?_) ?_ ?_
               rotate_left
               ·show Act.put _ (some 84) _ = _
                simp only [Act.put, zA, zB, zC, i64_w, i32_w]
                rfl
               refine pure_ (i := 18) (N := some 86) (v := ?_) (a' := ?_) (bq_ 20 524287) rfl rfl (any_of HT_.out (by kernel_rfl)) (fun _ _ _ h => h) (Or.inl ⟨by rfl, ?_⟩) ?_ ?_
               rotate_left
               ·intro w'
                go_simp
                with_reducible rfl
               rotate_left
               ·simp only [Act.put, zA, zB, zC, i64_w, i32_w]
                rfl
               refine pure_ (i := 19) (N := some 87) (v := ?_) (a' := ?_) (bq_ 20 1048575) rfl rfl (any_of HT_.out (by kernel_rfl)) (fun _ _ _ h => h) (Or.inl ⟨by rfl, ?_⟩) ?_ ?_
               rotate_left
               ·intro w'
                go_simp
                with_reducible rfl
               rotate_left
               ·simp only [Act.put, zA, zB, zC, i64_w, i32_w]
                rfl
               refine done_ (done_of HT_.out (by kernel_rfl)) ?_
               try go_wp2
               go_roundg kj44
               case measure => have := HJ11.out; have := HK2.out; have := HJ44.out; omega
               case rel => exact ⟨(wrap64 (x12_2 + 1)), (x140000_44), (x140001_44), (x140002_44), (x145000_44), (x145001_44), (x145002_44), (x149000_44), (x149001_44), (x149002_44), (x153000_44), (x153001_44), (x153002_44), (by first | rfl | (simp; done) | (simp [*]; done)), H', ⟨by have := HJ11.out; have := HK2.out; have := HJ44.out; omega⟩, ⟨by (with_reducible repeat (first | refine blk_drewN ?_ _ | refine blk_drew ?_ | refine blk_alloc ?_ _)); exact BK148.out⟩, ⟨by (with_reducible repeat (first | refine blk_drewN ?_ _ | refine blk_drew ?_ | refine blk_alloc ?_ _)); exact BK152.out⟩, ⟨by repeat (first | (with_reducible first | exact HI139.out | apply IsS23.alloc | apply IsS23.drewN | apply IsS23.drew | apply IsS23.set_0 | apply IsS23.set_1 | apply IsS23.set_2 | refine IsS23.far ?_ NB139_148.out _ | refine IsS23.far ?_ NB139_152.out _ | refine IsS23.far ?_ NB139_144.out _) | exact HI139.out)⟩, ⟨by repeat (first | (with_reducible first | exact HI144.out | apply IsS23.alloc | apply IsS23.drewN | apply IsS23.drew | apply IsS23.set_0 | apply IsS23.set_1 | apply IsS23.set_2 | refine IsS23.far ?_ NB144_148.out _ | refine IsS23.far ?_ NB144_152.out _ | refine IsS23.far ?_ NB144_139.out _) | exact HI144.out)⟩, ⟨by repeat (first | (with_reducible first | exact HB.out | apply below_alloc | apply pw_below_drewN | apply below_drew1 | refine below_set ?_ (IsS23.ge HI139.out) | refine below_set ?_ (IsS23.ge HI144.out) | refine below_set ?_ GE148.out | refine below_set ?_ GE152.out) | exact HB.out)⟩⟩
        ·rw [if_neg c44] at H
         exact absurd H (by simp)
       ·rw [if_neg c43] at H
        have c43b0 : decide (x12_2 < (l3.length : Int)) = false := decide_eq_false c43
        clear c43
        replace H := Option.bind_eq_some_iff.mp H
        obtain ⟨t193, A980, H⟩ := H
        replace H : ((wapentakeref17_Write.f k2 x149000_2 x149001_2 x149002_2).bind fun t194 => (if t193.toList = t194.toList then ((bucket_Bucket_Write.f x145000_2 x145001_2 x145002_2).bind fun t195 => ((wapentakeref17_Write.f k2 x153000_2 x153001_2 x153002_2).bind fun t196 => (if t195.toList = t196.toList then ((wapentakelaw17_awake.f).bind fun t197 => (some t197)) else (some false)))) else (some false))) = some r := H
        have A98 := Aside0.mk A980
        clear A980
        replace H := Option.bind_eq_some_iff.mp H
        obtain ⟨t194, A990, H⟩ := H
        replace H : (if t193.toList = t194.toList then ((bucket_Bucket_Write.f x145000_2 x145001_2 x145002_2).bind fun t195 => ((wapentakeref17_Write.f k2 x153000_2 x153001_2 x153002_2).bind fun t196 => (if t195.toList = t196.toList then ((wapentakelaw17_awake.f).bind fun t197 => (some t197)) else (some false)))) else (some false)) = some r := H
        have A99 := Aside0.mk A990
        clear A990
        by_cases c100 : t193.toList = t194.toList
        ·rw [if_pos c100] at H
         have c100b0 : (t193.toList == t194.toList) = true := beq_iff_eq.mpr c100
         have c100b1 : (t193.toList != t194.toList) = false := bne_eq_false_iff_eq.mpr c100
         clear c100
         replace H := Option.bind_eq_some_iff.mp H
         obtain ⟨t195, A1010, H⟩ := H
         replace H : ((wapentakeref17_Write.f k2 x153000_2 x153001_2 x153002_2).bind fun t196 => (if t195.toList = t196.toList then ((wapentakelaw17_awake.f).bind fun t197 => (some t197)) else (some false))) = some r := H
         have A101 := Aside0.mk A1010
         clear A1010
         replace H := Option.bind_eq_some_iff.mp H
         obtain ⟨t196, A1020, H⟩ := H
         replace H : (if t195.toList = t196.toList then ((wapentakelaw17_awake.f).bind fun t197 => (some t197)) else (some false)) = some r := H
         have A102 := Aside0.mk A1020
         clear A1020
         by_cases c103 : t195.toList = t196.toList
         ·rw [if_pos c103] at H
          have c103b0 : (t195.toList == t196.toList) = true := beq_iff_eq.mpr c103
          have c103b1 : (t195.toList != t196.toList) = false := bne_eq_false_iff_eq.mpr c103
          clear c103
          replace H := Option.bind_eq_some_iff.mp H
          obtain ⟨t197, A1040, H⟩ := H
          replace H : (some t197) = some r := H
          have A104 := Aside0.mk A1040
          clear A1040
          obtain rfl := Option.some.inj H
          try go_wp2
          have n0_ := Aside0.mk (blk_drew BK148.out)
          have n1_ := Aside0.mk (blk_drew BK152.out)
          have n2_ := Aside0.mk (IsS23.drew HI139.out)
          have n3_ := Aside0.mk (IsS23.drew HI144.out)
          have n4_ := Aside0.mk (below_drew1 HB.out)
          clear BK148
          clear BK152
          clear HI139
          clear HI144
          clear HB
          have BK148 := n0_
          have BK152 := n1_
          have HI139 := n2_
          have HI144 := n3_
          have HB := n4_
          clear n0_ n1_ n2_ n3_ n4_
          refine start_ (n := 16) (S := fun w' => w'.cell? ⟨gb139, 0, none⟩ = some (.int .i64 x140000_2) ∧ w'.cell? ⟨gb139, 1, none⟩ = some (.int .i64 x140001_2) ∧ w'.cell? ⟨gb139, 2, none⟩ = some (.int .i64 x140002_2) ∧ w'.cell? ⟨gb148, 0, none⟩ = some (.int .i64 x149000_2) ∧ w'.cell? ⟨gb148, 1, none⟩ = some (.int .i64 x149001_2) ∧ w'.cell? ⟨gb148, 2, none⟩ = some (.int .i64 x149002_2) ∧ w'.cell? ⟨gb144, 0, none⟩ = some (.int .i64 x145000_2) ∧ w'.cell? ⟨gb144, 1, none⟩ = some (.int .i64 x145001_2) ∧ w'.cell? ⟨gb144, 2, none⟩ = some (.int .i64 x145002_2) ∧ w'.cell? ⟨gb152, 0, none⟩ = some (.int .i64 x153000_2) ∧ w'.cell? ⟨gb152, 1, none⟩ = some (.int .i64 x153001_2) ∧ w'.cell? ⟨gb152, 2, none⟩ = some (.int .i64 x153002_2)) (ds := []) #[false, false, false, false, false, false, false, false, false, false, false, false, false, false, false, false] (by kernel_rfl) rfl rfl ⟨(blk_cell HI139.out.1 0).trans rfl, (blk_cell HI139.out.1 1).trans rfl, (blk_cell HI139.out.1 2).trans rfl, (blk_cell BK148.out 0).trans rfl, (blk_cell BK148.out 1).trans rfl, (blk_cell BK148.out 2).trans rfl, (blk_cell HI144.out.1 0).trans rfl, (blk_cell HI144.out.1 1).trans rfl, (blk_cell HI144.out.1 2).trans rfl, (blk_cell BK152.out 0).trans rfl, (blk_cell BK152.out 1).trans rfl, (blk_cell BK152.out 2).trans rfl⟩ (fun hHeld => ?_); refine with_tabW wapentakelaw17_BucketPlays.tab23 wapentakelaw17_BucketPlays.bits23 (fun HT_ HW_ => ?_)
          generalize wr.drew = w105 at BK148 BK152 HI139 HI144 HB hHeld ⊢
          refine take_ (i := 0) (N := some 88) (v := ?_) (a' := ?_) (bq_ 16 1) rfl rfl (take_ofW HT_.out HW_.out (by kernel_rfl)) (fun _ _ _ h => h) (Or.inl ⟨by rfl, ?_⟩) hHeld ?_ ?_
          rotate_left
          ·rintro w' ⟨s0, s1, s2, s3, s4, s5, s6, s7, s8, s9, s10, s11⟩
           go_simp
           with_reducible rfl
          rotate_left
          ·simp only [Act.put, zA, zB, zC, i64_w, i32_w]
           rfl
          refine take_ (i := 2) (N := some 90) (v := ?_) (a' := ?_) (bq_ 16 5) rfl rfl (take_ofW HT_.out HW_.out (by kernel_rfl)) (fun _ _ _ h => h) (Or.inl ⟨by rfl, ?_⟩) hHeld ?_ ?_
          rotate_left
          ·rintro w' ⟨s0, s1, s2, s3, s4, s5, s6, s7, s8, s9, s10, s11⟩
           go_simp
           with_reducible rfl
          rotate_left
          ·simp only [Act.put, zA, zB, zC, i64_w, i32_w]
           rfl
          refine one_ (i := 1) (N := some 89) (bq_ 16 7) rfl rfl (one_of HT_.out (by kernel_rfl)) (by decide) (fun K hK => ?_)
          refine goes_ Try.func19 (by kernel_rfl) rfl #[.agg #[.int .i64 x140000_2, .int .i64 x140001_2, .int .i64 x140002_2]] (by rfl) rfl rfl (by (try simp only [List.map_toArray, List.map_cons, List.map_nil]); first | done | rfl | (simp only [List.length_drop, List.length_take]; rfl)) ?_
          with_reducible refine (bucket_Bucket_Write.calls x140000_2 x140001_2 x140002_2 t193 _ A98.out).mono ?_
          rintro e w106 ⟨rfl, hb⟩
          refine ⟨_, rfl, ?_⟩
          have n0_ := Aside0.mk (blk_below (g := gb148) (o := .cells #[.int .i64 x149000_2, .int .i64 x149001_2, .int .i64 x149002_2] 27 (0, 0)) (by (with_reducible repeat (first | refine blk_drewN ?_ _ | refine blk_drew ?_ | refine blk_alloc ?_ _)); exact BK148.out) hb)
          have n1_ := Aside0.mk (blk_below (g := gb152) (o := .cells #[.int .i64 x153000_2, .int .i64 x153001_2, .int .i64 x153002_2] 27 (0, 0)) (by (with_reducible repeat (first | refine blk_drewN ?_ _ | refine blk_drew ?_ | refine blk_alloc ?_ _)); exact BK152.out) hb)
          have n2_ := Aside0.mk (IsS23.below (by repeat (first | (with_reducible first | exact HI139.out | apply IsS23.alloc | apply IsS23.drewN | apply IsS23.drew | apply IsS23.set_0 | apply IsS23.set_1 | apply IsS23.set_2 | refine IsS23.far ?_ NB139_148.out _ | refine IsS23.far ?_ NB139_152.out _ | refine IsS23.far ?_ NB139_144.out _) | exact HI139.out)) hb)
          have n3_ := Aside0.mk (IsS23.below (by repeat (first | (with_reducible first | exact HI144.out | apply IsS23.alloc | apply IsS23.drewN | apply IsS23.drew | apply IsS23.set_0 | apply IsS23.set_1 | apply IsS23.set_2 | refine IsS23.far ?_ NB144_148.out _ | refine IsS23.far ?_ NB144_152.out _ | refine IsS23.far ?_ NB144_139.out _) | exact HI144.out)) hb)
          have n4_ := Aside0.mk (below_step (by repeat (first | (with_reducible first | exact HB.out | apply below_alloc | apply pw_below_drewN | apply below_drew1 | refine below_set ?_ (IsS23.ge HI139.out) | refine below_set ?_ (IsS23.ge HI144.out) | refine below_set ?_ GE148.out | refine below_set ?_ GE152.out) | exact HB.out)) hb)
          clear BK148
          clear BK152
          clear HI139
          clear HI144
          clear HB
          have BK148 := n0_
          have BK152 := n1_
          have HI139 := n2_
          have HI144 := n3_
          have HB := n4_
          clear n0_ n1_ n2_ n3_ n4_
          (try clear hb)
          (try clear hb2)
          (try clear hk)
          (try clear hi)
          refine hK.out _ _ ⟨(blk_cell HI139.out.1 0).trans rfl, (blk_cell HI139.out.1 1).trans rfl, (blk_cell HI139.out.1 2).trans rfl, (blk_cell BK148.out 0).trans rfl, (blk_cell BK148.out 1).trans rfl, (blk_cell BK148.out 2).trans rfl, (blk_cell HI144.out.1 0).trans rfl, (blk_cell HI144.out.1 1).trans rfl, (blk_cell HI144.out.1 2).trans rfl, (blk_cell BK152.out 0).trans rfl, (blk_cell BK152.out 1).trans rfl, (blk_cell BK152.out 2).trans rfl⟩ (fun hHeld => ?_)
          clear hK K
          refine norm_ (a' := ?_) ?_ ?_
          rotate_left
          ·show Act.put _ (some 89) _ = _
           simp only [Act.put, zA, zB, zC, i64_w, i32_w]
           rfl
          refine one_ (i := 3) (N := some 91) (bq_ 16 15) rfl rfl (one_of HT_.out (by kernel_rfl)) (by decide) (fun K hK => ?_)
          refine goes_ Try.func20 (by kernel_rfl) rfl #[.agg #[.int .i64 x149000_2, .int .i64 x149001_2, .int .i64 x149002_2]] (by rfl) rfl rfl (by (try simp only [List.map_toArray, List.map_cons, List.map_nil]); first | done | rfl | (simp only [List.length_drop, List.length_take]; rfl)) ?_
          with_reducible refine (wapentakeref17_Write.calls k2 x149000_2 x149001_2 x149002_2 t194 _ A99.out).mono ?_
          rintro e w107 ⟨rfl, hb⟩
          refine ⟨_, rfl, ?_⟩
          have n0_ := Aside0.mk (blk_below (g := gb148) (o := .cells #[.int .i64 x149000_2, .int .i64 x149001_2, .int .i64 x149002_2] 27 (0, 0)) (by (with_reducible repeat (first | refine blk_drewN ?_ _ | refine blk_drew ?_ | refine blk_alloc ?_ _)); exact BK148.out) hb)
          have n1_ := Aside0.mk (blk_below (g := gb152) (o := .cells #[.int .i64 x153000_2, .int .i64 x153001_2, .int .i64 x153002_2] 27 (0, 0)) (by (with_reducible repeat (first | refine blk_drewN ?_ _ | refine blk_drew ?_ | refine blk_alloc ?_ _)); exact BK152.out) hb)
          have n2_ := Aside0.mk (IsS23.below (by repeat (first | (with_reducible first | exact HI139.out | apply IsS23.alloc | apply IsS23.drewN | apply IsS23.drew | apply IsS23.set_0 | apply IsS23.set_1 | apply IsS23.set_2 | refine IsS23.far ?_ NB139_148.out _ | refine IsS23.far ?_ NB139_152.out _ | refine IsS23.far ?_ NB139_144.out _) | exact HI139.out)) hb)
          have n3_ := Aside0.mk (IsS23.below (by repeat (first | (with_reducible first | exact HI144.out | apply IsS23.alloc | apply IsS23.drewN | apply IsS23.drew | apply IsS23.set_0 | apply IsS23.set_1 | apply IsS23.set_2 | refine IsS23.far ?_ NB144_148.out _ | refine IsS23.far ?_ NB144_152.out _ | refine IsS23.far ?_ NB144_139.out _) | exact HI144.out)) hb)
          have n4_ := Aside0.mk (below_step (by repeat (first | (with_reducible first | exact HB.out | apply below_alloc | apply pw_below_drewN | apply below_drew1 | refine below_set ?_ (IsS23.ge HI139.out) | refine below_set ?_ (IsS23.ge HI144.out) | refine below_set ?_ GE148.out | refine below_set ?_ GE152.out) | exact HB.out)) hb)
          clear BK148
          clear BK152
          clear HI139
          clear HI144
          clear HB
          have BK148 := n0_
          have BK152 := n1_
          have HI139 := n2_
          have HI144 := n3_
          have HB := n4_
          clear n0_ n1_ n2_ n3_ n4_
          (try clear hb)
          (try clear hb2)
          (try clear hk)
          (try clear hi)
          refine hK.out _ _ ⟨(blk_cell HI139.out.1 0).trans rfl, (blk_cell HI139.out.1 1).trans rfl, (blk_cell HI139.out.1 2).trans rfl, (blk_cell BK148.out 0).trans rfl, (blk_cell BK148.out 1).trans rfl, (blk_cell BK148.out 2).trans rfl, (blk_cell HI144.out.1 0).trans rfl, (blk_cell HI144.out.1 1).trans rfl, (blk_cell HI144.out.1 2).trans rfl, (blk_cell BK152.out 0).trans rfl, (blk_cell BK152.out 1).trans rfl, (blk_cell BK152.out 2).trans rfl⟩ (fun hHeld => ?_)
          clear hK K
          refine norm_ (a' := ?_) ?_ ?_
          rotate_left
          ·show Act.put _ (some 91) _ = _
           simp only [Act.put, zA, zB, zC, i64_w, i32_w]
           rfl
          refine pure_ (i := 4) (N := some 92) (v := ?_) (a' := ?_) (bq_ 16 31) rfl rfl (any_of HT_.out (by kernel_rfl)) (fun _ _ _ h => h) (Or.inl ⟨by rfl, ?_⟩) ?_ ?_
          rotate_left
          ·intro w'
           go_simp
           with_reducible rfl
          rotate_left
          ·simp only [Act.put, zA, zB, zC, i64_w, i32_w]
           rfl
          refine pure_ (i := 5) (N := some 93) (v := ?_) (a' := ?_) (bq_ 16 63) rfl rfl (any_of HT_.out (by kernel_rfl)) (fun _ _ _ h => h) (Or.inl ⟨by rfl, ?_⟩) ?_ ?_
          rotate_left
          ·intro w'
           go_simp
           with_reducible rfl
          rotate_left
          ·simp only [Act.put, zA, zB, zC, i64_w, i32_w]
           rfl
          refine take_ (i := 6) (N := some 94) (v := ?_) (a' := ?_) (bq_ 16 127) rfl rfl (take_ofW HT_.out HW_.out (by kernel_rfl)) (fun _ _ _ h => h) (Or.inl ⟨by rfl, ?_⟩) hHeld ?_ ?_
          rotate_left
          ·rintro w' ⟨s0, s1, s2, s3, s4, s5, s6, s7, s8, s9, s10, s11⟩
           go_simp
           with_reducible rfl
          rotate_left
          ·simp only [Act.put, zA, zB, zC, i64_w, i32_w]
           rfl
          refine take_ (i := 8) (N := some 96) (v := ?_) (a' := ?_) (bq_ 16 383) rfl rfl (take_ofW HT_.out HW_.out (by kernel_rfl)) (fun _ _ _ h => h) (Or.inl ⟨by rfl, ?_⟩) hHeld ?_ ?_
          rotate_left
          ·rintro w' ⟨s0, s1, s2, s3, s4, s5, s6, s7, s8, s9, s10, s11⟩
           go_simp
           with_reducible rfl
          rotate_left
          ·simp only [Act.put, zA, zB, zC, i64_w, i32_w]
           rfl
          refine one_ (i := 7) (N := some 95) (bq_ 16 511) rfl rfl (one_of HT_.out (by kernel_rfl)) (by decide) (fun K hK => ?_)
          refine goes_ Try.func19 (by kernel_rfl) rfl #[.agg #[.int .i64 x145000_2, .int .i64 x145001_2, .int .i64 x145002_2]] (by rfl) rfl rfl (by (try simp only [List.map_toArray, List.map_cons, List.map_nil]); first | done | rfl | (simp only [List.length_drop, List.length_take]; rfl)) ?_
          with_reducible refine (bucket_Bucket_Write.calls x145000_2 x145001_2 x145002_2 t195 _ A101.out).mono ?_
          rintro e w108 ⟨rfl, hb⟩
          refine ⟨_, rfl, ?_⟩
          have n0_ := Aside0.mk (blk_below (g := gb148) (o := .cells #[.int .i64 x149000_2, .int .i64 x149001_2, .int .i64 x149002_2] 27 (0, 0)) (by (with_reducible repeat (first | refine blk_drewN ?_ _ | refine blk_drew ?_ | refine blk_alloc ?_ _)); exact BK148.out) hb)
          have n1_ := Aside0.mk (blk_below (g := gb152) (o := .cells #[.int .i64 x153000_2, .int .i64 x153001_2, .int .i64 x153002_2] 27 (0, 0)) (by (with_reducible repeat (first | refine blk_drewN ?_ _ | refine blk_drew ?_ | refine blk_alloc ?_ _)); exact BK152.out) hb)
          have n2_ := Aside0.mk (IsS23.below (by repeat (first | (with_reducible first | exact HI139.out | apply IsS23.alloc | apply IsS23.drewN | apply IsS23.drew | apply IsS23.set_0 | apply IsS23.set_1 | apply IsS23.set_2 | refine IsS23.far ?_ NB139_148.out _ | refine IsS23.far ?_ NB139_152.out _ | refine IsS23.far ?_ NB139_144.out _) | exact HI139.out)) hb)
          have n3_ := Aside0.mk (IsS23.below (by repeat (first | (with_reducible first | exact HI144.out | apply IsS23.alloc | apply IsS23.drewN | apply IsS23.drew | apply IsS23.set_0 | apply IsS23.set_1 | apply IsS23.set_2 | refine IsS23.far ?_ NB144_148.out _ | refine IsS23.far ?_ NB144_152.out _ | refine IsS23.far ?_ NB144_139.out _) | exact HI144.out)) hb)
          have n4_ := Aside0.mk (below_step (by repeat (first | (with_reducible first | exact HB.out | apply below_alloc | apply pw_below_drewN | apply below_drew1 | refine below_set ?_ (IsS23.ge HI139.out) | refine below_set ?_ (IsS23.ge HI144.out) | refine below_set ?_ GE148.out | refine below_set ?_ GE152.out) | exact HB.out)) hb)
          clear BK148
          clear BK152
          clear HI139
          clear HI144
          clear HB
          have BK148 := n0_
          have BK152 := n1_
          have HI139 := n2_
          have HI144 := n3_
          have HB := n4_
          clear n0_ n1_ n2_ n3_ n4_
          (try clear hb)
          (try clear hb2)
          (try clear hk)
          (try clear hi)
          refine hK.out _ _ ⟨(blk_cell HI139.out.1 0).trans rfl, (blk_cell HI139.out.1 1).trans rfl, (blk_cell HI139.out.1 2).trans rfl, (blk_cell BK148.out 0).trans rfl, (blk_cell BK148.out 1).trans rfl, (blk_cell BK148.out 2).trans rfl, (blk_cell HI144.out.1 0).trans rfl, (blk_cell HI144.out.1 1).trans rfl, (blk_cell HI144.out.1 2).trans rfl, (blk_cell BK152.out 0).trans rfl, (blk_cell BK152.out 1).trans rfl, (blk_cell BK152.out 2).trans rfl⟩ (fun hHeld => ?_)
          clear hK K
          refine norm_ (a' := ?_) ?_ ?_
          rotate_left
          ·show Act.put _ (some 95) _ = _
           simp only [Act.put, zA, zB, zC, i64_w, i32_w]
           rfl
          refine one_ (i := 9) (N := some 97) (bq_ 16 1023) rfl rfl (one_of HT_.out (by kernel_rfl)) (by decide) (fun K hK => ?_)
          refine goes_ Try.func20 (by kernel_rfl) rfl #[.agg #[.int .i64 x153000_2, .int .i64 x153001_2, .int .i64 x153002_2]] (by rfl) rfl rfl (by (try simp only [List.map_toArray, List.map_cons, List.map_nil]); first | done | rfl | (simp only [List.length_drop, List.length_take]; rfl)) ?_
          with_reducible refine (wapentakeref17_Write.calls k2 x153000_2 x153001_2 x153002_2 t196 _ A102.out).mono ?_
          rintro e w109 ⟨rfl, hb⟩
          refine ⟨_, rfl, ?_⟩
          have n0_ := Aside0.mk (blk_below (g := gb148) (o := .cells #[.int .i64 x149000_2, .int .i64 x149001_2, .int .i64 x149002_2] 27 (0, 0)) (by (with_reducible repeat (first | refine blk_drewN ?_ _ | refine blk_drew ?_ | refine blk_alloc ?_ _)); exact BK148.out) hb)
          have n1_ := Aside0.mk (blk_below (g := gb152) (o := .cells #[.int .i64 x153000_2, .int .i64 x153001_2, .int .i64 x153002_2] 27 (0, 0)) (by (with_reducible repeat (first | refine blk_drewN ?_ _ | refine blk_drew ?_ | refine blk_alloc ?_ _)); exact BK152.out) hb)
          have n2_ := Aside0.mk (IsS23.below (by repeat (first | (with_reducible first | exact HI139.out | apply IsS23.alloc | apply IsS23.drewN | apply IsS23.drew | apply IsS23.set_0 | apply IsS23.set_1 | apply IsS23.set_2 | refine IsS23.far ?_ NB139_148.out _ | refine IsS23.far ?_ NB139_152.out _ | refine IsS23.far ?_ NB139_144.out _) | exact HI139.out)) hb)
          have n3_ := Aside0.mk (IsS23.below (by repeat (first | (with_reducible first | exact HI144.out | apply IsS23.alloc | apply IsS23.drewN | apply IsS23.drew | apply IsS23.set_0 | apply IsS23.set_1 | apply IsS23.set_2 | refine IsS23.far ?_ NB144_148.out _ | refine IsS23.far ?_ NB144_152.out _ | refine IsS23.far ?_ NB144_139.out _) | exact HI144.out)) hb)
          have n4_ := Aside0.mk (below_step (by repeat (first | (with_reducible first | exact HB.out | apply below_alloc | apply pw_below_drewN | apply below_drew1 | refine below_set ?_ (IsS23.ge HI139.out) | refine below_set ?_ (IsS23.ge HI144.out) | refine below_set ?_ GE148.out | refine below_set ?_ GE152.out) | exact HB.out)) hb)
          clear BK148
          clear BK152
          clear HI139
          clear HI144
          clear HB
          have BK148 := n0_
          have BK152 := n1_
          have HI139 := n2_
          have HI144 := n3_
          have HB := n4_
          clear n0_ n1_ n2_ n3_ n4_
          (try clear hb)
          (try clear hb2)
          (try clear hk)
          (try clear hi)
          refine hK.out _ _ ⟨(blk_cell HI139.out.1 0).trans rfl, (blk_cell HI139.out.1 1).trans rfl, (blk_cell HI139.out.1 2).trans rfl, (blk_cell BK148.out 0).trans rfl, (blk_cell BK148.out 1).trans rfl, (blk_cell BK148.out 2).trans rfl, (blk_cell HI144.out.1 0).trans rfl, (blk_cell HI144.out.1 1).trans rfl, (blk_cell HI144.out.1 2).trans rfl, (blk_cell BK152.out 0).trans rfl, (blk_cell BK152.out 1).trans rfl, (blk_cell BK152.out 2).trans rfl⟩ (fun hHeld => ?_)
          clear hK K
          refine norm_ (a' := ?_) ?_ ?_
          rotate_left
          ·show Act.put _ (some 97) _ = _
           simp only [Act.put, zA, zB, zC, i64_w, i32_w]
           rfl
          refine pure_ (i := 10) (N := some 98) (v := ?_) (a' := ?_) (bq_ 16 2047) rfl rfl (any_of HT_.out (by kernel_rfl)) (fun _ _ _ h => h) (Or.inl ⟨by rfl, ?_⟩) ?_ ?_
          rotate_left
          ·intro w'
           go_simp
           with_reducible rfl
          rotate_left
          ·simp only [Act.put, zA, zB, zC, i64_w, i32_w]
           rfl
          refine pure_ (i := 11) (N := some 99) (v := ?_) (a' := ?_) (bq_ 16 4095) rfl rfl (any_of HT_.out (by kernel_rfl)) (fun _ _ _ h => h) (Or.inl ⟨by rfl, ?_⟩) ?_ ?_
          rotate_left
          ·intro w'
           go_simp
           with_reducible rfl
          rotate_left
          ·simp only [Act.put, zA, zB, zC, i64_w, i32_w]
           rfl
          refine pure_ (i := 12) (N := some 100) (v := ?_) (a' := ?_) (bq_ 16 8191) rfl rfl (any_of HT_.out (by kernel_rfl)) (fun _ _ _ h => h) (Or.inl ⟨by rfl, ?_⟩) ?_ ?_
          rotate_left
          ·intro w'
           go_simp
           with_reducible rfl
          rotate_left
          ·simp only [Act.put, zA, zB, zC, i64_w, i32_w]
           rfl
          refine one_ (i := 13) (N := some 101) (bq_ 16 16383) rfl rfl (one_of HT_.out (by kernel_rfl)) (by decide) (fun K hK => ?_)
          refine goes_ Try.func9 (by kernel_rfl) rfl #[] (by rfl) rfl rfl (by (try simp only [List.map_toArray, List.map_cons, List.map_nil]); first | done | rfl | (simp only [List.length_drop, List.length_take]; rfl)) ?_
          with_reducible refine (wapentakelaw17_awake.calls  t197 _ A104.out).mono ?_
          rintro e w110 ⟨rfl, hb⟩
          refine ⟨_, rfl, ?_⟩
          have n0_ := Aside0.mk (blk_below (g := gb148) (o := .cells #[.int .i64 x149000_2, .int .i64 x149001_2, .int .i64 x149002_2] 27 (0, 0)) (by (with_reducible repeat (first | refine blk_drewN ?_ _ | refine blk_drew ?_ | refine blk_alloc ?_ _)); exact BK148.out) hb)
          have n1_ := Aside0.mk (blk_below (g := gb152) (o := .cells #[.int .i64 x153000_2, .int .i64 x153001_2, .int .i64 x153002_2] 27 (0, 0)) (by (with_reducible repeat (first | refine blk_drewN ?_ _ | refine blk_drew ?_ | refine blk_alloc ?_ _)); exact BK152.out) hb)
          have n2_ := Aside0.mk (IsS23.below (by repeat (first | (with_reducible first | exact HI139.out | apply IsS23.alloc | apply IsS23.drewN | apply IsS23.drew | apply IsS23.set_0 | apply IsS23.set_1 | apply IsS23.set_2 | refine IsS23.far ?_ NB139_148.out _ | refine IsS23.far ?_ NB139_152.out _ | refine IsS23.far ?_ NB139_144.out _) | exact HI139.out)) hb)
          have n3_ := Aside0.mk (IsS23.below (by repeat (first | (with_reducible first | exact HI144.out | apply IsS23.alloc | apply IsS23.drewN | apply IsS23.drew | apply IsS23.set_0 | apply IsS23.set_1 | apply IsS23.set_2 | refine IsS23.far ?_ NB144_148.out _ | refine IsS23.far ?_ NB144_152.out _ | refine IsS23.far ?_ NB144_139.out _) | exact HI144.out)) hb)
          have n4_ := Aside0.mk (below_step (by repeat (first | (with_reducible first | exact HB.out | apply below_alloc | apply pw_below_drewN | apply below_drew1 | refine below_set ?_ (IsS23.ge HI139.out) | refine below_set ?_ (IsS23.ge HI144.out) | refine below_set ?_ GE148.out | refine below_set ?_ GE152.out) | exact HB.out)) hb)
          clear BK148
          clear BK152
          clear HI139
          clear HI144
          clear HB
          have BK148 := n0_
          have BK152 := n1_
          have HI139 := n2_
          have HI144 := n3_
          have HB := n4_
          clear n0_ n1_ n2_ n3_ n4_
          (try clear hb)
          (try clear hb2)
          (try clear hk)
          (try clear hi)
          refine hK.out _ _ ⟨(blk_cell HI139.out.1 0).trans rfl, (blk_cell HI139.out.1 1).trans rfl, (blk_cell HI139.out.1 2).trans rfl, (blk_cell BK148.out 0).trans rfl, (blk_cell BK148.out 1).trans rfl, (blk_cell BK148.out 2).trans rfl, (blk_cell HI144.out.1 0).trans rfl, (blk_cell HI144.out.1 1).trans rfl, (blk_cell HI144.out.1 2).trans rfl, (blk_cell BK152.out 0).trans rfl, (blk_cell BK152.out 1).trans rfl, (blk_cell BK152.out 2).trans rfl⟩ (fun hHeld => ?_)
          clear hK K
          refine norm_ (a' := ?_) ?_ ?_
          rotate_left
          ·show Act.put _ (some 101) _ = _
           simp only [Act.put, zA, zB, zC, i64_w, i32_w]
           rfl
          refine pure_ (i := 14) (N := some 102) (v := ?_) (a' := ?_) (bq_ 16 32767) rfl rfl (any_of HT_.out (by kernel_rfl)) (fun _ _ _ h => h) (Or.inl ⟨by rfl, ?_⟩) ?_ ?_
          rotate_left
          ·intro w'
           go_simp
           with_reducible rfl
          rotate_left
          ·simp only [Act.put, zA, zB, zC, i64_w, i32_w]
           rfl
          refine pure_ (i := 15) (N := some 8) (v := ?_) (a' := ?_) (bq_ 16 65535) rfl rfl (any_of HT_.out (by kernel_rfl)) (fun _ _ _ h => h) (Or.inl ⟨by rfl, ?_⟩) ?_ ?_
          rotate_left
          ·intro w'
           go_simp
           with_reducible rfl
          rotate_left
          ·simp only [Act.put, zA, zB, zC, i64_w, i32_w]
           rfl
          refine done_ (done_of HT_.out (by kernel_rfl)) ?_
          try go_wp2
          go_ret
          exact ⟨by first | rfl | (simp [errW_none, errW_some] <;> rfl) | (simp [*, errW_none, errW_some] <;> rfl), by repeat (first | (with_reducible first | exact HB.out | apply below_alloc | apply pw_below_drewN | apply below_drew1 | refine below_set ?_ (IsS23.ge HI139.out) | refine below_set ?_ (IsS23.ge HI144.out) | refine below_set ?_ GE148.out | refine below_set ?_ GE152.out) | exact HB.out)⟩
         ·rw [if_neg c103] at H
          have c103b0 : (t195.toList == t196.toList) = false := beq_eq_false_iff_ne.mpr c103
          have c103b1 : (t195.toList != t196.toList) = true := bne_iff_ne.mpr c103
          obtain rfl := Option.some.inj H
          try go_wp2
          have n0_ := Aside0.mk (blk_drew BK148.out)
          have n1_ := Aside0.mk (blk_drew BK152.out)
          have n2_ := Aside0.mk (IsS23.drew HI139.out)
          have n3_ := Aside0.mk (IsS23.drew HI144.out)
          have n4_ := Aside0.mk (below_drew1 HB.out)
          clear BK148
          clear BK152
          clear HI139
          clear HI144
          clear HB
          have BK148 := n0_
          have BK152 := n1_
          have HI139 := n2_
          have HI144 := n3_
          have HB := n4_
          clear n0_ n1_ n2_ n3_ n4_
          refine start_ (n := 16) (S := fun w' => w'.cell? ⟨gb139, 0, none⟩ = some (.int .i64 x140000_2) ∧ w'.cell? ⟨gb139, 1, none⟩ = some (.int .i64 x140001_2) ∧ w'.cell? ⟨gb139, 2, none⟩ = some (.int .i64 x140002_2) ∧ w'.cell? ⟨gb148, 0, none⟩ = some (.int .i64 x149000_2) ∧ w'.cell? ⟨gb148, 1, none⟩ = some (.int .i64 x149001_2) ∧ w'.cell? ⟨gb148, 2, none⟩ = some (.int .i64 x149002_2) ∧ w'.cell? ⟨gb144, 0, none⟩ = some (.int .i64 x145000_2) ∧ w'.cell? ⟨gb144, 1, none⟩ = some (.int .i64 x145001_2) ∧ w'.cell? ⟨gb144, 2, none⟩ = some (.int .i64 x145002_2) ∧ w'.cell? ⟨gb152, 0, none⟩ = some (.int .i64 x153000_2) ∧ w'.cell? ⟨gb152, 1, none⟩ = some (.int .i64 x153001_2) ∧ w'.cell? ⟨gb152, 2, none⟩ = some (.int .i64 x153002_2)) (ds := []) #[false, false, false, false, false, false, false, false, false, false, false, false, false, false, false, false] (by kernel_rfl) rfl rfl ⟨(blk_cell HI139.out.1 0).trans rfl, (blk_cell HI139.out.1 1).trans rfl, (blk_cell HI139.out.1 2).trans rfl, (blk_cell BK148.out 0).trans rfl, (blk_cell BK148.out 1).trans rfl, (blk_cell BK148.out 2).trans rfl, (blk_cell HI144.out.1 0).trans rfl, (blk_cell HI144.out.1 1).trans rfl, (blk_cell HI144.out.1 2).trans rfl, (blk_cell BK152.out 0).trans rfl, (blk_cell BK152.out 1).trans rfl, (blk_cell BK152.out 2).trans rfl⟩ (fun hHeld => ?_); refine with_tabW wapentakelaw17_BucketPlays.tab23 wapentakelaw17_BucketPlays.bits23 (fun HT_ HW_ => ?_)
          generalize wr.drew = w111 at BK148 BK152 HI139 HI144 HB hHeld ⊢
          refine take_ (i := 0) (N := some 88) (v := ?_) (a' := ?_) (bq_ 16 1) rfl rfl (take_ofW HT_.out HW_.out (by kernel_rfl)) (fun _ _ _ h => h) (Or.inl ⟨by rfl, ?_⟩) hHeld ?_ ?_
          rotate_left
          ·rintro w' ⟨s0, s1, s2, s3, s4, s5, s6, s7, s8, s9, s10, s11⟩
           go_simp
           with_reducible rfl
          rotate_left
          ·simp only [Act.put, zA, zB, zC, i64_w, i32_w]
           rfl
          refine take_ (i := 2) (N := some 90) (v := ?_) (a' := ?_) (bq_ 16 5) rfl rfl (take_ofW HT_.out HW_.out (by kernel_rfl)) (fun _ _ _ h => h) (Or.inl ⟨by rfl, ?_⟩) hHeld ?_ ?_
          rotate_left
          ·rintro w' ⟨s0, s1, s2, s3, s4, s5, s6, s7, s8, s9, s10, s11⟩
           go_simp
           with_reducible rfl
          rotate_left
          ·simp only [Act.put, zA, zB, zC, i64_w, i32_w]
           rfl
          refine one_ (i := 1) (N := some 89) (bq_ 16 7) rfl rfl (one_of HT_.out (by kernel_rfl)) (by decide) (fun K hK => ?_)
          refine goes_ Try.func19 (by kernel_rfl) rfl #[.agg #[.int .i64 x140000_2, .int .i64 x140001_2, .int .i64 x140002_2]] (by rfl) rfl rfl (by (try simp only [List.map_toArray, List.map_cons, List.map_nil]); first | done | rfl | (simp only [List.length_drop, List.length_take]; rfl)) ?_
          with_reducible refine (bucket_Bucket_Write.calls x140000_2 x140001_2 x140002_2 t193 _ A98.out).mono ?_
          rintro e w112 ⟨rfl, hb⟩
          refine ⟨_, rfl, ?_⟩
          have n0_ := Aside0.mk (blk_below (g := gb148) (o := .cells #[.int .i64 x149000_2, .int .i64 x149001_2, .int .i64 x149002_2] 27 (0, 0)) (by (with_reducible repeat (first | refine blk_drewN ?_ _ | refine blk_drew ?_ | refine blk_alloc ?_ _)); exact BK148.out) hb)
          have n1_ := Aside0.mk (blk_below (g := gb152) (o := .cells #[.int .i64 x153000_2, .int .i64 x153001_2, .int .i64 x153002_2] 27 (0, 0)) (by (with_reducible repeat (first | refine blk_drewN ?_ _ | refine blk_drew ?_ | refine blk_alloc ?_ _)); exact BK152.out) hb)
          have n2_ := Aside0.mk (IsS23.below (by repeat (first | (with_reducible first | exact HI139.out | apply IsS23.alloc | apply IsS23.drewN | apply IsS23.drew | apply IsS23.set_0 | apply IsS23.set_1 | apply IsS23.set_2 | refine IsS23.far ?_ NB139_148.out _ | refine IsS23.far ?_ NB139_152.out _ | refine IsS23.far ?_ NB139_144.out _) | exact HI139.out)) hb)
          have n3_ := Aside0.mk (IsS23.below (by repeat (first | (with_reducible first | exact HI144.out | apply IsS23.alloc | apply IsS23.drewN | apply IsS23.drew | apply IsS23.set_0 | apply IsS23.set_1 | apply IsS23.set_2 | refine IsS23.far ?_ NB144_148.out _ | refine IsS23.far ?_ NB144_152.out _ | refine IsS23.far ?_ NB144_139.out _) | exact HI144.out)) hb)
          have n4_ := Aside0.mk (below_step (by repeat (first | (with_reducible first | exact HB.out | apply below_alloc | apply pw_below_drewN | apply below_drew1 | refine below_set ?_ (IsS23.ge HI139.out) | refine below_set ?_ (IsS23.ge HI144.out) | refine below_set ?_ GE148.out | refine below_set ?_ GE152.out) | exact HB.out)) hb)
          clear BK148
          clear BK152
          clear HI139
          clear HI144
          clear HB
          have BK148 := n0_
          have BK152 := n1_
          have HI139 := n2_
          have HI144 := n3_
          have HB := n4_
          clear n0_ n1_ n2_ n3_ n4_
          (try clear hb)
          (try clear hb2)
          (try clear hk)
          (try clear hi)
          refine hK.out _ _ ⟨(blk_cell HI139.out.1 0).trans rfl, (blk_cell HI139.out.1 1).trans rfl, (blk_cell HI139.out.1 2).trans rfl, (blk_cell BK148.out 0).trans rfl, (blk_cell BK148.out 1).trans rfl, (blk_cell BK148.out 2).trans rfl, (blk_cell HI144.out.1 0).trans rfl, (blk_cell HI144.out.1 1).trans rfl, (blk_cell HI144.out.1 2).trans rfl, (blk_cell BK152.out 0).trans rfl, (blk_cell BK152.out 1).trans rfl, (blk_cell BK152.out 2).trans rfl⟩ (fun hHeld => ?_)
          clear hK K
          refine norm_ (a' := ?_) ?_ ?_
          rotate_left
          ·show Act.put _ (some 89) _ = _
           simp only [Act.put, zA, zB, zC, i64_w, i32_w]
           rfl
          refine one_ (i := 3) (N := some 91) (bq_ 16 15) rfl rfl (one_of HT_.out (by kernel_rfl)) (by decide) (fun K hK => ?_)
          refine goes_ Try.func20 (by kernel_rfl) rfl #[.agg #[.int .i64 x149000_2, .int .i64 x149001_2, .int .i64 x149002_2]] (by rfl) rfl rfl (by (try simp only [List.map_toArray, List.map_cons, List.map_nil]); first | done | rfl | (simp only [List.length_drop, List.length_take]; rfl)) ?_
          with_reducible refine (wapentakeref17_Write.calls k2 x149000_2 x149001_2 x149002_2 t194 _ A99.out).mono ?_
          rintro e w113 ⟨rfl, hb⟩
          refine ⟨_, rfl, ?_⟩
          have n0_ := Aside0.mk (blk_below (g := gb148) (o := .cells #[.int .i64 x149000_2, .int .i64 x149001_2, .int .i64 x149002_2] 27 (0, 0)) (by (with_reducible repeat (first | refine blk_drewN ?_ _ | refine blk_drew ?_ | refine blk_alloc ?_ _)); exact BK148.out) hb)
          have n1_ := Aside0.mk (blk_below (g := gb152) (o := .cells #[.int .i64 x153000_2, .int .i64 x153001_2, .int .i64 x153002_2] 27 (0, 0)) (by (with_reducible repeat (first | refine blk_drewN ?_ _ | refine blk_drew ?_ | refine blk_alloc ?_ _)); exact BK152.out) hb)
          have n2_ := Aside0.mk (IsS23.below (by repeat (first | (with_reducible first | exact HI139.out | apply IsS23.alloc | apply IsS23.drewN | apply IsS23.drew | apply IsS23.set_0 | apply IsS23.set_1 | apply IsS23.set_2 | refine IsS23.far ?_ NB139_148.out _ | refine IsS23.far ?_ NB139_152.out _ | refine IsS23.far ?_ NB139_144.out _) | exact HI139.out)) hb)
          have n3_ := Aside0.mk (IsS23.below (by repeat (first | (with_reducible first | exact HI144.out | apply IsS23.alloc | apply IsS23.drewN | apply IsS23.drew | apply IsS23.set_0 | apply IsS23.set_1 | apply IsS23.set_2 | refine IsS23.far ?_ NB144_148.out _ | refine IsS23.far ?_ NB144_152.out _ | refine IsS23.far ?_ NB144_139.out _) | exact HI144.out)) hb)
          have n4_ := Aside0.mk (below_step (by repeat (first | (with_reducible first | exact HB.out | apply below_alloc | apply pw_below_drewN | apply below_drew1 | refine below_set ?_ (IsS23.ge HI139.out) | refine below_set ?_ (IsS23.ge HI144.out) | refine below_set ?_ GE148.out | refine below_set ?_ GE152.out) | exact HB.out)) hb)
          clear BK148
          clear BK152
          clear HI139
          clear HI144
          clear HB
          have BK148 := n0_
          have BK152 := n1_
          have HI139 := n2_
          have HI144 := n3_
          have HB := n4_
          clear n0_ n1_ n2_ n3_ n4_
          (try clear hb)
          (try clear hb2)
          (try clear hk)
          (try clear hi)
          refine hK.out _ _ ⟨(blk_cell HI139.out.1 0).trans rfl, (blk_cell HI139.out.1 1).trans rfl, (blk_cell HI139.out.1 2).trans rfl, (blk_cell BK148.out 0).trans rfl, (blk_cell BK148.out 1).trans rfl, (blk_cell BK148.out 2).trans rfl, (blk_cell HI144.out.1 0).trans rfl, (blk_cell HI144.out.1 1).trans rfl, (blk_cell HI144.out.1 2).trans rfl, (blk_cell BK152.out 0).trans rfl, (blk_cell BK152.out 1).trans rfl, (blk_cell BK152.out 2).trans rfl⟩ (fun hHeld => ?_)
          clear hK K
          refine norm_ (a' := ?_) ?_ ?_
          rotate_left
          ·show Act.put _ (some 91) _ = _
           simp only [Act.put, zA, zB, zC, i64_w, i32_w]
           rfl
          refine pure_ (i := 4) (N := some 92) (v := ?_) (a' := ?_) (bq_ 16 31) rfl rfl (any_of HT_.out (by kernel_rfl)) (fun _ _ _ h => h) (Or.inl ⟨by rfl, ?_⟩) ?_ ?_
          rotate_left
          ·intro w'
           go_simp
           with_reducible rfl
          rotate_left
          ·simp only [Act.put, zA, zB, zC, i64_w, i32_w]
           rfl
          refine pure_ (i := 5) (N := some 93) (v := ?_) (a' := ?_) (bq_ 16 63) rfl rfl (any_of HT_.out (by kernel_rfl)) (fun _ _ _ h => h) (Or.inl ⟨by rfl, ?_⟩) ?_ ?_
          rotate_left
          ·intro w'
           go_simp
           with_reducible rfl
          rotate_left
          ·simp only [Act.put, zA, zB, zC, i64_w, i32_w]
           rfl
          refine take_ (i := 6) (N := some 94) (v := ?_) (a' := ?_) (bq_ 16 127) rfl rfl (take_ofW HT_.out HW_.out (by kernel_rfl)) (fun _ _ _ h => h) (Or.inl ⟨by rfl, ?_⟩) hHeld ?_ ?_
          rotate_left
          ·rintro w' ⟨s0, s1, s2, s3, s4, s5, s6, s7, s8, s9, s10, s11⟩
           go_simp
           with_reducible rfl
          rotate_left
          ·simp only [Act.put, zA, zB, zC, i64_w, i32_w]
           rfl
          refine take_ (i := 8) (N := some 96) (v := ?_) (a' := ?_) (bq_ 16 383) rfl rfl (take_ofW HT_.out HW_.out (by kernel_rfl)) (fun _ _ _ h => h) (Or.inl ⟨by rfl, ?_⟩) hHeld ?_ ?_
          rotate_left
          ·rintro w' ⟨s0, s1, s2, s3, s4, s5, s6, s7, s8, s9, s10, s11⟩
           go_simp
           with_reducible rfl
          rotate_left
          ·simp only [Act.put, zA, zB, zC, i64_w, i32_w]
           rfl
          refine one_ (i := 7) (N := some 95) (bq_ 16 511) rfl rfl (one_of HT_.out (by kernel_rfl)) (by decide) (fun K hK => ?_)
          refine goes_ Try.func19 (by kernel_rfl) rfl #[.agg #[.int .i64 x145000_2, .int .i64 x145001_2, .int .i64 x145002_2]] (by rfl) rfl rfl (by (try simp only [List.map_toArray, List.map_cons, List.map_nil]); first | done | rfl | (simp only [List.length_drop, List.length_take]; rfl)) ?_
          with_reducible refine (bucket_Bucket_Write.calls x145000_2 x145001_2 x145002_2 t195 _ A101.out).mono ?_
          rintro e w114 ⟨rfl, hb⟩
          refine ⟨_, rfl, ?_⟩
          have n0_ := Aside0.mk (blk_below (g := gb148) (o := .cells #[.int .i64 x149000_2, .int .i64 x149001_2, .int .i64 x149002_2] 27 (0, 0)) (by (with_reducible repeat (first | refine blk_drewN ?_ _ | refine blk_drew ?_ | refine blk_alloc ?_ _)); exact BK148.out) hb)
          have n1_ := Aside0.mk (blk_below (g := gb152) (o := .cells #[.int .i64 x153000_2, .int .i64 x153001_2, .int .i64 x153002_2] 27 (0, 0)) (by (with_reducible repeat (first | refine blk_drewN ?_ _ | refine blk_drew ?_ | refine blk_alloc ?_ _)); exact BK152.out) hb)
          have n2_ := Aside0.mk (IsS23.below (by repeat (first | (with_reducible first | exact HI139.out | apply IsS23.alloc | apply IsS23.drewN | apply IsS23.drew | apply IsS23.set_0 | apply IsS23.set_1 | apply IsS23.set_2 | refine IsS23.far ?_ NB139_148.out _ | refine IsS23.far ?_ NB139_152.out _ | refine IsS23.far ?_ NB139_144.out _) | exact HI139.out)) hb)
          have n3_ := Aside0.mk (IsS23.below (by repeat (first | (with_reducible first | exact HI144.out | apply IsS23.alloc | apply IsS23.drewN | apply IsS23.drew | apply IsS23.set_0 | apply IsS23.set_1 | apply IsS23.set_2 | refine IsS23.far ?_ NB144_148.out _ | refine IsS23.far ?_ NB144_152.out _ | refine IsS23.far ?_ NB144_139.out _) | exact HI144.out)) hb)
          have n4_ := Aside0.mk (below_step (by repeat (first | (with_reducible first | exact HB.out | apply below_alloc | apply pw_below_drewN | apply below_drew1 | refine below_set ?_ (IsS23.ge HI139.out) | refine below_set ?_ (IsS23.ge HI144.out) | refine below_set ?_ GE148.out | refine below_set ?_ GE152.out) | exact HB.out)) hb)
          clear BK148
          clear BK152
          clear HI139
          clear HI144
          clear HB
          have BK148 := n0_
          have BK152 := n1_
          have HI139 := n2_
          have HI144 := n3_
          have HB := n4_
          clear n0_ n1_ n2_ n3_ n4_
          (try clear hb)
          (try clear hb2)
          (try clear hk)
          (try clear hi)
          refine hK.out _ _ ⟨(blk_cell HI139.out.1 0).trans rfl, (blk_cell HI139.out.1 1).trans rfl, (blk_cell HI139.out.1 2).trans rfl, (blk_cell BK148.out 0).trans rfl, (blk_cell BK148.out 1).trans rfl, (blk_cell BK148.out 2).trans rfl, (blk_cell HI144.out.1 0).trans rfl, (blk_cell HI144.out.1 1).trans rfl, (blk_cell HI144.out.1 2).trans rfl, (blk_cell BK152.out 0).trans rfl, (blk_cell BK152.out 1).trans rfl, (blk_cell BK152.out 2).trans rfl⟩ (fun hHeld => ?_)
          clear hK K
          refine norm_ (a' := ?_) ?_ ?_
          rotate_left
          ·show Act.put _ (some 95) _ = _
           simp only [Act.put, zA, zB, zC, i64_w, i32_w]
           rfl
          refine one_ (i := 9) (N := some 97) (bq_ 16 1023) rfl rfl (one_of HT_.out (by kernel_rfl)) (by decide) (fun K hK => ?_)
          refine goes_ Try.func20 (by kernel_rfl) rfl #[.agg #[.int .i64 x153000_2, .int .i64 x153001_2, .int .i64 x153002_2]] (by rfl) rfl rfl (by (try simp only [List.map_toArray, List.map_cons, List.map_nil]); first | done | rfl | (simp only [List.length_drop, List.length_take]; rfl)) ?_
          with_reducible refine (wapentakeref17_Write.calls k2 x153000_2 x153001_2 x153002_2 t196 _ A102.out).mono ?_
          rintro e w115 ⟨rfl, hb⟩
          refine ⟨_, rfl, ?_⟩
          have n0_ := Aside0.mk (blk_below (g := gb148) (o := .cells #[.int .i64 x149000_2, .int .i64 x149001_2, .int .i64 x149002_2] 27 (0, 0)) (by (with_reducible repeat (first | refine blk_drewN ?_ _ | refine blk_drew ?_ | refine blk_alloc ?_ _)); exact BK148.out) hb)
          have n1_ := Aside0.mk (blk_below (g := gb152) (o := .cells #[.int .i64 x153000_2, .int .i64 x153001_2, .int .i64 x153002_2] 27 (0, 0)) (by (with_reducible repeat (first | refine blk_drewN ?_ _ | refine blk_drew ?_ | refine blk_alloc ?_ _)); exact BK152.out) hb)
          have n2_ := Aside0.mk (IsS23.below (by repeat (first | (with_reducible first | exact HI139.out | apply IsS23.alloc | apply IsS23.drewN | apply IsS23.drew | apply IsS23.set_0 | apply IsS23.set_1 | apply IsS23.set_2 | refine IsS23.far ?_ NB139_148.out _ | refine IsS23.far ?_ NB139_152.out _ | refine IsS23.far ?_ NB139_144.out _) | exact HI139.out)) hb)
          have n3_ := Aside0.mk (IsS23.below (by repeat (first | (with_reducible first | exact HI144.out | apply IsS23.alloc | apply IsS23.drewN | apply IsS23.drew | apply IsS23.set_0 | apply IsS23.set_1 | apply IsS23.set_2 | refine IsS23.far ?_ NB144_148.out _ | refine IsS23.far ?_ NB144_152.out _ | refine IsS23.far ?_ NB144_139.out _) | exact HI144.out)) hb)
          have n4_ := Aside0.mk (below_step (by repeat (first | (with_reducible first | exact HB.out | apply below_alloc | apply pw_below_drewN | apply below_drew1 | refine below_set ?_ (IsS23.ge HI139.out) | refine below_set ?_ (IsS23.ge HI144.out) | refine below_set ?_ GE148.out | refine below_set ?_ GE152.out) | exact HB.out)) hb)
          clear BK148
          clear BK152
          clear HI139
          clear HI144
          clear HB
          have BK148 := n0_
          have BK152 := n1_
          have HI139 := n2_
          have HI144 := n3_
          have HB := n4_
          clear n0_ n1_ n2_ n3_ n4_
          (try clear hb)
          (try clear hb2)
          (try clear hk)
          (try clear hi)
          refine hK.out _ _ ⟨(blk_cell HI139.out.1 0).trans rfl, (blk_cell HI139.out.1 1).trans rfl, (blk_cell HI139.out.1 2).trans rfl, (blk_cell BK148.out 0).trans rfl, (blk_cell BK148.out 1).trans rfl, (blk_cell BK148.out 2).trans rfl, (blk_cell HI144.out.1 0).trans rfl, (blk_cell HI144.out.1 1).trans rfl, (blk_cell HI144.out.1 2).trans rfl, (blk_cell BK152.out 0).trans rfl, (blk_cell BK152.out 1).trans rfl, (blk_cell BK152.out 2).trans rfl⟩ (fun hHeld => ?_)
          clear hK K
          refine norm_ (a' := ?_) ?_ ?_
          rotate_left
          ·show Act.put _ (some 97) _ = _
           simp only [Act.put, zA, zB, zC, i64_w, i32_w]
           rfl
          refine pure_ (i := 10) (N := some 98) (v := ?_) (a' := ?_) (bq_ 16 2047) rfl rfl (any_of HT_.out (by kernel_rfl)) (fun _ _ _ h => h) (Or.inl ⟨by rfl, ?_⟩) ?_ ?_
          rotate_left
          ·intro w'
           go_simp
           with_reducible rfl
          rotate_left
          ·simp only [Act.put, zA, zB, zC, i64_w, i32_w]
           rfl
          refine pure_ (i := 11) (N := some 99) (v := ?_) (a' := ?_) (bq_ 16 4095) rfl rfl (any_of HT_.out (by kernel_rfl)) (fun _ _ _ h => h) (Or.inl ⟨by rfl, ?_⟩) ?_ ?_
          rotate_left
          ·intro w'
           go_simp
           with_reducible rfl
          rotate_left
          ·simp only [Act.put, zA, zB, zC, i64_w, i32_w]
           rfl
          refine pure_ (i := 12) (N := some 100) (v := ?_) (a' := ?_) (bq_ 16 8191) rfl rfl (any_of HT_.out (by kernel_rfl)) (fun _ _ _ h => h) (Or.inl ⟨by rfl, ?_⟩) ?_ ?_
          rotate_left
          ·intro w'
           go_simp
           with_reducible rfl
          rotate_left
          ·simp only [Act.put, zA, zB, zC, i64_w, i32_w]
           rfl
          refine pure_ (i := 13) (N := some 101) (v := undef) (a' := ?_) (bq_ 16 16383) rfl rfl (any_of HT_.out (by kernel_rfl)) (fun _ _ _ h => h) (Or.inr ⟨by rfl, rfl⟩) ?_ ?_
          rotate_left
          ·simp only [Act.put, zA, zB, zC, i64_w, i32_w]
           rfl
          refine pure_ (i := 14) (N := some 102) (v := ?_) (a' := ?_) (bq_ 16 32767) rfl rfl (any_of HT_.out (by kernel_rfl)) (fun _ _ _ h => h) (Or.inl ⟨by rfl, ?_⟩) ?_ ?_
          rotate_left
          ·intro w'
           go_simp
           with_reducible rfl
          rotate_left
          ·simp only [Act.put, zA, zB, zC, i64_w, i32_w]
           rfl
          refine pure_ (i := 15) (N := some 8) (v := ?_) (a' := ?_) (bq_ 16 65535) rfl rfl (any_of HT_.out (by kernel_rfl)) (fun _ _ _ h => h) (Or.inl ⟨by rfl, ?_⟩) ?_ ?_
          rotate_left
          ·intro w'
           go_simp
           with_reducible rfl
          rotate_left
          ·simp only [Act.put, zA, zB, zC, i64_w, i32_w]
           rfl
          refine done_ (done_of HT_.out (by kernel_rfl)) ?_
          try go_wp2
          go_ret
          exact ⟨by first | rfl | (simp [errW_none, errW_some] <;> rfl) | (simp [*, errW_none, errW_some] <;> rfl), by repeat (first | (with_reducible first | exact HB.out | apply below_alloc | apply pw_below_drewN | apply below_drew1 | refine below_set ?_ (IsS23.ge HI139.out) | refine below_set ?_ (IsS23.ge HI144.out) | refine below_set ?_ GE148.out | refine below_set ?_ GE152.out) | exact HB.out)⟩
        ·rw [if_neg c100] at H
         have c100b0 : (t193.toList == t194.toList) = false := beq_eq_false_iff_ne.mpr c100
         have c100b1 : (t193.toList != t194.toList) = true := bne_iff_ne.mpr c100
         obtain rfl := Option.some.inj H
         try go_wp2
         have n0_ := Aside0.mk (blk_drew BK148.out)
         have n1_ := Aside0.mk (blk_drew BK152.out)
         have n2_ := Aside0.mk (IsS23.drew HI139.out)
         have n3_ := Aside0.mk (IsS23.drew HI144.out)
         have n4_ := Aside0.mk (below_drew1 HB.out)
         clear BK148
         clear BK152
         clear HI139
         clear HI144
         clear HB
         have BK148 := n0_
         have BK152 := n1_
         have HI139 := n2_
         have HI144 := n3_
         have HB := n4_
         clear n0_ n1_ n2_ n3_ n4_
         refine start_ (n := 16) (S := fun w' => w'.cell? ⟨gb139, 0, none⟩ = some (.int .i64 x140000_2) ∧ w'.cell? ⟨gb139, 1, none⟩ = some (.int .i64 x140001_2) ∧ w'.cell? ⟨gb139, 2, none⟩ = some (.int .i64 x140002_2) ∧ w'.cell? ⟨gb148, 0, none⟩ = some (.int .i64 x149000_2) ∧ w'.cell? ⟨gb148, 1, none⟩ = some (.int .i64 x149001_2) ∧ w'.cell? ⟨gb148, 2, none⟩ = some (.int .i64 x149002_2)) (ds := []) #[false, false, false, false, false, false, false, false, false, false, false, false, false, false, false, false] (by kernel_rfl) rfl rfl ⟨(blk_cell HI139.out.1 0).trans rfl, (blk_cell HI139.out.1 1).trans rfl, (blk_cell HI139.out.1 2).trans rfl, (blk_cell BK148.out 0).trans rfl, (blk_cell BK148.out 1).trans rfl, (blk_cell BK148.out 2).trans rfl⟩ (fun hHeld => ?_); refine with_tabW wapentakelaw17_BucketPlays.tab23 wapentakelaw17_BucketPlays.bits23 (fun HT_ HW_ => ?_)
         generalize wr.drew = w116 at BK148 BK152 HI139 HI144 HB hHeld ⊢
         refine take_ (i := 0) (N := some 88) (v := ?_) (a' := ?_) (bq_ 16 1) rfl rfl (take_ofW HT_.out HW_.out (by kernel_rfl)) (fun _ _ _ h => h) (Or.inl ⟨by rfl, ?_⟩) hHeld ?_ ?_
         rotate_left
         ·rintro w' ⟨s0, s1, s2, s3, s4, s5⟩
          go_simp
          with_reducible rfl
         rotate_left
         ·simp only [Act.put, zA, zB, zC, i64_w, i32_w]
          rfl
         refine take_ (i := 2) (N := some 90) (v := ?_) (a' := ?_) (bq_ 16 5) rfl rfl (take_ofW HT_.out HW_.out (by kernel_rfl)) (fun _ _ _ h => h) (Or.inl ⟨by rfl, ?_⟩) hHeld ?_ ?_
         rotate_left
         ·rintro w' ⟨s0, s1, s2, s3, s4, s5⟩
          go_simp
          with_reducible rfl
         rotate_left
         ·simp only [Act.put, zA, zB, zC, i64_w, i32_w]
          rfl
         refine one_ (i := 1) (N := some 89) (bq_ 16 7) rfl rfl (one_of HT_.out (by kernel_rfl)) (by decide) (fun K hK => ?_)
         refine goes_ Try.func19 (by kernel_rfl) rfl #[.agg #[.int .i64 x140000_2, .int .i64 x140001_2, .int .i64 x140002_2]] (by rfl) rfl rfl (by (try simp only [List.map_toArray, List.map_cons, List.map_nil]); first | done | rfl | (simp only [List.length_drop, List.length_take]; rfl)) ?_
         with_reducible refine (bucket_Bucket_Write.calls x140000_2 x140001_2 x140002_2 t193 _ A98.out).mono ?_
         rintro e w117 ⟨rfl, hb⟩
         refine ⟨_, rfl, ?_⟩
         have n0_ := Aside0.mk (blk_below (g := gb148) (o := .cells #[.int .i64 x149000_2, .int .i64 x149001_2, .int .i64 x149002_2] 27 (0, 0)) (by (with_reducible repeat (first | refine blk_drewN ?_ _ | refine blk_drew ?_ | refine blk_alloc ?_ _)); exact BK148.out) hb)
         have n1_ := Aside0.mk (blk_below (g := gb152) (o := .cells #[.int .i64 x153000_2, .int .i64 x153001_2, .int .i64 x153002_2] 27 (0, 0)) (by (with_reducible repeat (first | refine blk_drewN ?_ _ | refine blk_drew ?_ | refine blk_alloc ?_ _)); exact BK152.out) hb)
         have n2_ := Aside0.mk (IsS23.below (by repeat (first | (with_reducible first | exact HI139.out | apply IsS23.alloc | apply IsS23.drewN | apply IsS23.drew | apply IsS23.set_0 | apply IsS23.set_1 | apply IsS23.set_2 | refine IsS23.far ?_ NB139_148.out _ | refine IsS23.far ?_ NB139_152.out _ | refine IsS23.far ?_ NB139_144.out _) | exact HI139.out)) hb)
         have n3_ := Aside0.mk (IsS23.below (by repeat (first | (with_reducible first | exact HI144.out | apply IsS23.alloc | apply IsS23.drewN | apply IsS23.drew | apply IsS23.set_0 | apply IsS23.set_1 | apply IsS23.set_2 | refine IsS23.far ?_ NB144_148.out _ | refine IsS23.far ?_ NB144_152.out _ | refine IsS23.far ?_ NB144_139.out _) | exact HI144.out)) hb)
         have n4_ := Aside0.mk (below_step (by repeat (first | (with_reducible first | exact HB.out | apply below_alloc | apply pw_below_drewN | apply below_drew1 | refine below_set ?_ (IsS23.ge HI139.out) | refine below_set ?_ (IsS23.ge HI144.out) | refine below_set ?_ GE148.out | refine below_set ?_ GE152.out) | exact HB.out)) hb)
         clear BK148
         clear BK152
         clear HI139
         clear HI144
         clear HB
         have BK148 := n0_
         have BK152 := n1_
         have HI139 := n2_
         have HI144 := n3_
         have HB := n4_
         clear n0_ n1_ n2_ n3_ n4_
         (try clear hb)
         (try clear hb2)
         (try clear hk)
         (try clear hi)
         refine hK.out _ _ ⟨(blk_cell HI139.out.1 0).trans rfl, (blk_cell HI139.out.1 1).trans rfl, (blk_cell HI139.out.1 2).trans rfl, (blk_cell BK148.out 0).trans rfl, (blk_cell BK148.out 1).trans rfl, (blk_cell BK148.out 2).trans rfl⟩ (fun hHeld => ?_)
         clear hK K
         refine norm_ (a' := ?_) ?_ ?_
         rotate_left
         ·show Act.put _ (some 89) _ = _
          simp only [Act.put, zA, zB, zC, i64_w, i32_w]
          rfl
         refine one_ (i := 3) (N := some 91) (bq_ 16 15) rfl rfl (one_of HT_.out (by kernel_rfl)) (by decide) (fun K hK => ?_)
         refine goes_ Try.func20 (by kernel_rfl) rfl #[.agg #[.int .i64 x149000_2, .int .i64 x149001_2, .int .i64 x149002_2]] (by rfl) rfl rfl (by (try simp only [List.map_toArray, List.map_cons, List.map_nil]); first | done | rfl | (simp only [List.length_drop, List.length_take]; rfl)) ?_
         with_reducible refine (wapentakeref17_Write.calls k2 x149000_2 x149001_2 x149002_2 t194 _ A99.out).mono ?_
         rintro e w118 ⟨rfl, hb⟩
         refine ⟨_, rfl, ?_⟩
         have n0_ := Aside0.mk (blk_below (g := gb148) (o := .cells #[.int .i64 x149000_2, .int .i64 x149001_2, .int .i64 x149002_2] 27 (0, 0)) (by (with_reducible repeat (first | refine blk_drewN ?_ _ | refine blk_drew ?_ | refine blk_alloc ?_ _)); exact BK148.out) hb)
         have n1_ := Aside0.mk (blk_below (g := gb152) (o := .cells #[.int .i64 x153000_2, .int .i64 x153001_2, .int .i64 x153002_2] 27 (0, 0)) (by (with_reducible repeat (first | refine blk_drewN ?_ _ | refine blk_drew ?_ | refine blk_alloc ?_ _)); exact BK152.out) hb)
         have n2_ := Aside0.mk (IsS23.below (by repeat (first | (with_reducible first | exact HI139.out | apply IsS23.alloc | apply IsS23.drewN | apply IsS23.drew | apply IsS23.set_0 | apply IsS23.set_1 | apply IsS23.set_2 | refine IsS23.far ?_ NB139_148.out _ | refine IsS23.far ?_ NB139_152.out _ | refine IsS23.far ?_ NB139_144.out _) | exact HI139.out)) hb)
         have n3_ := Aside0.mk (IsS23.below (by repeat (first | (with_reducible first | exact HI144.out | apply IsS23.alloc | apply IsS23.drewN | apply IsS23.drew | apply IsS23.set_0 | apply IsS23.set_1 | apply IsS23.set_2 | refine IsS23.far ?_ NB144_148.out _ | refine IsS23.far ?_ NB144_152.out _ | refine IsS23.far ?_ NB144_139.out _) | exact HI144.out)) hb)
         have n4_ := Aside0.mk (below_step (by repeat (first | (with_reducible first | exact HB.out | apply below_alloc | apply pw_below_drewN | apply below_drew1 | refine below_set ?_ (IsS23.ge HI139.out) | refine below_set ?_ (IsS23.ge HI144.out) | refine below_set ?_ GE148.out | refine below_set ?_ GE152.out) | exact HB.out)) hb)
         clear BK148
         clear BK152
         clear HI139
         clear HI144
         clear HB
         have BK148 := n0_
         have BK152 := n1_
         have HI139 := n2_
         have HI144 := n3_
         have HB := n4_
         clear n0_ n1_ n2_ n3_ n4_
         (try clear hb)
         (try clear hb2)
         (try clear hk)
         (try clear hi)
         refine hK.out _ _ ⟨(blk_cell HI139.out.1 0).trans rfl, (blk_cell HI139.out.1 1).trans rfl, (blk_cell HI139.out.1 2).trans rfl, (blk_cell BK148.out 0).trans rfl, (blk_cell BK148.out 1).trans rfl, (blk_cell BK148.out 2).trans rfl⟩ (fun hHeld => ?_)
         clear hK K
         refine norm_ (a' := ?_) ?_ ?_
         rotate_left
         ·show Act.put _ (some 91) _ = _
          simp only [Act.put, zA, zB, zC, i64_w, i32_w]
          rfl
         refine pure_ (i := 4) (N := some 92) (v := ?_) (a' := ?_) (bq_ 16 31) rfl rfl (any_of HT_.out (by kernel_rfl)) (fun _ _ _ h => h) (Or.inl ⟨by rfl, ?_⟩) ?_ ?_
         rotate_left
         ·intro w'
          go_simp
          with_reducible rfl
         rotate_left
         ·simp only [Act.put, zA, zB, zC, i64_w, i32_w]
          rfl
         refine pure_ (i := 5) (N := some 93) (v := ?_) (a' := ?_) (bq_ 16 63) rfl rfl (any_of HT_.out (by kernel_rfl)) (fun _ _ _ h => h) (Or.inl ⟨by rfl, ?_⟩) ?_ ?_
         rotate_left
         ·intro w'
          go_simp
          with_reducible rfl
         rotate_left
         ·simp only [Act.put, zA, zB, zC, i64_w, i32_w]
          rfl
         refine pure_ (i := 6) (N := some 94) (v := undef) (a' := ?_) (bq_ 16 127) rfl rfl (any_of HT_.out (by kernel_rfl)) (fun _ _ _ h => h) (Or.inr ⟨by rfl, rfl⟩) ?_ ?_
         rotate_left
         ·simp only [Act.put, zA, zB, zC, i64_w, i32_w]
          rfl
         refine pure_ (i := 7) (N := some 95) (v := undef) (a' := ?_) (bq_ 16 255) rfl rfl (any_of HT_.out (by kernel_rfl)) (fun _ _ _ h => h) (Or.inr ⟨by rfl, rfl⟩) ?_ ?_
         rotate_left
         ·simp only [Act.put, zA, zB, zC, i64_w, i32_w]
          rfl
         refine pure_ (i := 8) (N := some 96) (v := undef) (a' := ?_) (bq_ 16 511) rfl rfl (any_of HT_.out (by kernel_rfl)) (fun _ _ _ h => h) (Or.inr ⟨by rfl, rfl⟩) ?_ ?_
         rotate_left
         ·simp only [Act.put, zA, zB, zC, i64_w, i32_w]
          rfl
         refine pure_ (i := 9) (N := some 97) (v := undef) (a' := ?_) (bq_ 16 1023) rfl rfl (any_of HT_.out (by kernel_rfl)) (fun _ _ _ h => h) (Or.inr ⟨by rfl, rfl⟩) ?_ ?_
         rotate_left
         ·simp only [Act.put, zA, zB, zC, i64_w, i32_w]
          rfl
         refine pure_ (i := 10) (N := some 98) (v := undef) (a' := ?_) (bq_ 16 2047) rfl rfl (any_of HT_.out (by kernel_rfl)) (fun _ _ _ h => h) (Or.inr ⟨by rfl, rfl⟩) ?_ ?_
         rotate_left
         ·simp only [Act.put, zA, zB, zC, i64_w, i32_w]
          rfl
         refine pure_ (i := 11) (N := some 99) (v := ?_) (a' := ?_) (bq_ 16 4095) rfl rfl (any_of HT_.out (by kernel_rfl)) (fun _ _ _ h => h) (Or.inl ⟨by rfl, ?_⟩) ?_ ?_
         rotate_left
         ·intro w'
          go_simp
          with_reducible rfl
         rotate_left
         ·simp only [Act.put, zA, zB, zC, i64_w, i32_w]
          rfl
         refine pure_ (i := 12) (N := some 100) (v := ?_) (a' := ?_) (bq_ 16 8191) rfl rfl (any_of HT_.out (by kernel_rfl)) (fun _ _ _ h => h) (Or.inl ⟨by rfl, ?_⟩) ?_ ?_
         rotate_left
         ·intro w'
          go_simp
          with_reducible rfl
         rotate_left
         ·simp only [Act.put, zA, zB, zC, i64_w, i32_w]
          rfl
         refine pure_ (i := 13) (N := some 101) (v := undef) (a' := ?_) (bq_ 16 16383) rfl rfl (any_of HT_.out (by kernel_rfl)) (fun _ _ _ h => h) (Or.inr ⟨by rfl, rfl⟩) ?_ ?_
         rotate_left
         ·simp only [Act.put, zA, zB, zC, i64_w, i32_w]
          rfl
         refine pure_ (i := 14) (N := some 102) (v := ?_) (a' := ?_) (bq_ 16 32767) rfl rfl (any_of HT_.out (by kernel_rfl)) (fun _ _ _ h => h) (Or.inl ⟨by rfl, ?_⟩) ?_ ?_
         rotate_left
         ·intro w'
          go_simp
          with_reducible rfl
         rotate_left
         ·simp only [Act.put, zA, zB, zC, i64_w, i32_w]
          rfl
         refine pure_ (i := 15) (N := some 8) (v := ?_) (a' := ?_) (bq_ 16 65535) rfl rfl (any_of HT_.out (by kernel_rfl)) (fun _ _ _ h => h) (Or.inl ⟨by rfl, ?_⟩) ?_ ?_
         rotate_left
         ·intro w'
          go_simp
          with_reducible rfl
         rotate_left
         ·simp only [Act.put, zA, zB, zC, i64_w, i32_w]
          rfl
         refine done_ (done_of HT_.out (by kernel_rfl)) ?_
         try go_wp2
         go_ret
         exact ⟨by first | rfl | (simp [errW_none, errW_some] <;> rfl) | (simp [*, errW_none, errW_some] <;> rfl), by repeat (first | (with_reducible first | exact HB.out | apply below_alloc | apply pw_below_drewN | apply below_drew1 | refine below_set ?_ (IsS23.ge HI139.out) | refine below_set ?_ (IsS23.ge HI144.out) | refine below_set ?_ GE148.out | refine below_set ?_ GE152.out) | exact HB.out)⟩

def wapentakelaw17_BucketPlays.Pure : Prop := ∀ (a0 : S23) (a1 : Int) (a2 : Int) (l3 : List Bool), ((Lit.int .i64 a0.f0).wf = true ∧ (Lit.int .i64 a0.f1).wf = true ∧ (Lit.int .i64 a0.f2).wf = true) → (Lit.int .i64 a1).wf = true → (Lit.int .i64 a2).wf = true → (l3.length ≤ 9223372036854775807 ∧ ∀ y0_ ∈ l3, True) → ∃ k, wapentakelaw17_BucketPlays.f k a0.f0 a0.f1 a0.f2 a1 a2 l3 = some true

end Go.Proofs.Ytfpeacjodgdndaa.P
