-- Written by wip/tools/myprint.sh out of the translation, over the kit's print with a patch. Not trusted: Lean checks it.
import Derived.Test.YtfpeacjodgdndaaPx0
import Derived.Test.YtfpeacjodgdndaaPx3
import Derived.Test.YtfpeacjodgdndaaPx9
namespace Go.Proofs.Ytfpeacjodgdndaa.P
open Go.RowKit Go.Proofs.YtfpeacjodgdndaaW.PrintWords Go.Proofs.YtfpeacjodgdndaaW.PrintLast Go.Proofs.YtfpeacjodgdndaaW.PrintMore Go.Proofs.Ytfpeacjodgdndaa.Num
attribute [local go_sem] max2_int min2_int max_two min_two max_three min_three max_four min_four   -- for this text's walks alone
set_option linter.unusedVariables false
set_option linter.unusedSimpArgs false

/-! ### bucket_Read: function 21, by hand -/
-- HAND rounds=1 making=1
/-- The rounds that are left: what was read so far, and how far. -/
def bucket_Read.go (k : Nat) (s : ByteArray) : Nat → Int → Int → Int → Int → Option (Int × Int × Int × Int × Bool)
  | 0, c0, c1, c2, size => (bucket_Bucket_Right.f c0 c1 c2).bind fun t => if t = true then some (c0, c1, c2, size, true) else some (0, 0, 0, 0, false)
  | d + 1, c0, c1, c2, size => if 0 ≤ size then (if size ≤ (s.size : Int) then ((num_ReadV.f k (s.extract size.toNat s.size)).bind fun b => if b.2.2 = true then (if b.1 > 2147483647 then some (0, 0, 0, 0, false) else
      bucket_Read.go k s d (if d = 2 then wrap64 b.1 else c0) (if d = 1 then wrap64 b.1 else c1) (if d = 0 then wrap64 b.1 else c2) (wrap64 (size + b.2.1))) else some (0, 0, 0, 0, false)) else none) else none
def bucket_Read.f (k : Nat) (a0 : ByteArray) : Option (Int × Int × Int × Int × Bool) := bucket_Read.go k a0 3 0 0 0 0
theorem bucket_Read.mono_go (a0 : ByteArray) : ∀ d c0 c1 c2 size k, LeO (bucket_Read.go k a0 d c0 c1 c2 size) (bucket_Read.go (k + 1) a0 d c0 c1 c2 size)
  | 0, c0, c1, c2, size, k => LeO.refl _
  | d + 1, c0, c1, c2, size, k => by
    unfold bucket_Read.go
    refine LeO.ite (LeO.ite (LeO.bind (num_ReadV.mono _ _) fun b => LeO.ite (LeO.ite (LeO.refl _) (bucket_Read.mono_go a0 d _ _ _ _ k)) (LeO.refl _)) (LeO.refl _)) (LeO.refl _)
theorem bucket_Read.mono : ∀ a0 k, LeO (bucket_Read.f k a0) (bucket_Read.f (k + 1) a0) := fun a0 k => bucket_Read.mono_go a0 3 0 0 0 0 k
set_option maxHeartbeats 4000000 in
set_option maxRecDepth 100000 in
theorem bucket_Read.calls (k : Nat) (a0 : ByteArray) (r1 : Int) (r2 : Int) (r3 : Int) (r4 : Int) (r5 : Bool) (w : World) (h : bucket_Read.f k a0 = some (r1, r2, r3, r4, r5)) :
    Calls Try.prog 21 #[.string a0] w fun e w' => e = .returned (.tuple #[.agg #[.int .i64 r1, .int .i64 r2, .int .i64 r3], .int .i64 r4, .bool r5]) ∧ Below w.heap.size w w' := by
  have H := Aside0.mk h
  clear h
  go_enter Try.func21, Try.ntmps21
  go_wp2
  go_loopg [3, 15] 3 (fun kq v3 v15 w' => ∃ (d : Nat) (c0 c1 c2 size : Int), d = kq ∧ d ≤ 3 ∧ v3 = .int .i64 size ∧ v15 = .int .i64 (3 - (d : Int)) ∧ Aside0 (bucket_Read.go k a0 d c0 c1 c2 size = some (r1, r2, r3, r4, r5)) ∧
    Aside0 (w'.heap[w.heap.size]? = some (.cells #[.int .i64 c0, .int .i64 c1, .int .i64 c2] 23 (0, 0))) ∧
    Aside0 (w'.heap[w.heap.size + 1]? = some (.cells #[.pointer (some ⟨w.heap.size, 0, none⟩), .pointer (some ⟨w.heap.size, 1, none⟩), .pointer (some ⟨w.heap.size, 2, none⟩)] 52 (0, 0))) ∧ Aside0 (Below w.heap.size w w'))
  case atStart =>
    refine ⟨3, 0, 0, 0, 0, rfl, Nat.le_refl _, rfl, rfl, H, ⟨?_⟩, ⟨?_⟩, ⟨below_alloc (below_alloc (Below.refl _ _) _) _⟩⟩
    · exact blk_alloc (heap_alloc_new w _) _
    · have h := heap_alloc_new (w.alloc (.cells #[.int .i64 0, .int .i64 0, .int .i64 0] 23)) (.cells #[.pointer (some ⟨w.heap.size, 0, none⟩), .pointer (some ⟨w.heap.size, 1, none⟩), .pointer (some ⟨w.heap.size, 2, none⟩)] 52)
      simpa using h
  case round =>
    clear H
    obtain ⟨d, c0, c1, c2, size, hd, hd3, rfl, rfl, H, HC, HP, HB⟩ := hrel
    subst hd
    cases d with
    | zero =>
      have h := H.out
      unfold bucket_Read.go at h
      obtain ⟨t, ht, h⟩ := Option.bind_eq_some_iff.mp h
      have HT := Aside0.mk ht
      clear ht
      have hc0 := (blk_cell HC.out 0).trans rfl
      have hc1 := (blk_cell HC.out 1).trans rfl
      have hc2 := (blk_cell HC.out 2).trans rfl
      cases t with
      | true =>
        rw [if_pos rfl] at h
        have HH := Aside0.mk h
        clear h
        go_wp2_with fail
        refine (bucket_Bucket_Right.calls _ _ _ true _ HT.out).mono ?_
        rintro e w1 ⟨rfl, hb⟩
        clear hc0 hc1 hc2
        have HC1 := Aside0.mk (blk_below HC.out hb)
        have HB1 := Aside0.mk (below_step HB.out hb)
        clear hb
        have hc0 := (blk_cell HC1.out 0).trans rfl
        have hc1 := (blk_cell HC1.out 1).trans rfl
        have hc2 := (blk_cell HC1.out 2).trans rfl
        have hf0 := blk_frozen HC1.out 0
        have hf1 := blk_frozen HC1.out 1
        have hf2 := blk_frozen HC1.out 2
        go_wp2
        have HH := HH.out
        simp only [Option.some.injEq, Prod.mk.injEq] at HH
        obtain ⟨rfl, rfl, rfl, rfl, rfl⟩ := HH
        refine bodyPost_ret (results_ctt rfl _ _ w.heap.size 23 #[.int .i64 c0, .int .i64 c1, .int .i64 c2] (0, 0) _ rfl (blk_set (blk_set (blk_set HC1.out 0 (.int .i64 c0)) 1 (.int .i64 c1)) 2 (.int .i64 c2)) Try.underlying23 rfl (by kernel_rfl)) rfl ?_
        exact ⟨rfl, below_set (below_set (below_set HB1.out (Nat.le_refl _)) (Nat.le_refl _)) (Nat.le_refl _)⟩
      | false =>
        rw [if_neg (by decide)] at h
        have HH := Aside0.mk h
        clear h
        go_wp2_with fail
        refine (bucket_Bucket_Right.calls _ _ _ false _ HT.out).mono ?_
        rintro e w1 ⟨rfl, hb⟩
        clear hc0 hc1 hc2
        have HC1 := Aside0.mk (blk_below HC.out hb)
        have HB1 := Aside0.mk (below_step HB.out hb)
        clear hb
        have hc0 := (blk_cell HC1.out 0).trans rfl
        have hc1 := (blk_cell HC1.out 1).trans rfl
        have hc2 := (blk_cell HC1.out 2).trans rfl
        have hf0 := blk_frozen HC1.out 0
        have hf1 := blk_frozen HC1.out 1
        have hf2 := blk_frozen HC1.out 2
        go_wp2
        have HH := HH.out
        simp only [Option.some.injEq, Prod.mk.injEq] at HH
        obtain ⟨rfl, rfl, rfl, rfl, rfl⟩ := HH
        refine bodyPost_ret (results_ctt rfl _ _ w.heap.size 23 #[.int .i64 0, .int .i64 0, .int .i64 0] (0, 0) _ rfl (blk_set (blk_set (blk_set HC1.out 0 (.int .i64 0)) 1 (.int .i64 0)) 2 (.int .i64 0)) Try.underlying23 rfl (by kernel_rfl)) rfl ?_
        exact ⟨rfl, below_set (below_set (below_set HB1.out (Nat.le_refl _)) (Nat.le_refl _)) (Nat.le_refl _)⟩
    | succ d =>
      have h := H.out
      clear H
      unfold bucket_Read.go at h
      by_cases z0 : 0 ≤ size
      · rw [if_pos z0] at h
        by_cases z1 : size ≤ (a0.size : Int)
        · rw [if_pos z1] at h
          replace h := Option.bind_eq_some_iff.mp h
          obtain ⟨⟨b1, b2, b3⟩, ht, h⟩ := h
          have HT := Aside0.mk ht
          clear ht
          have p1 := eq_true z0
          have p2 := eq_true z1
          have p3 := decide_eq_true z0
          have p4 := decide_eq_true z1
          clear z0 z1
          have hd2 : d = 0 ∨ d = 1 ∨ d = 2 := by omega
          rcases hd2 with rfl | rfl | rfl
          · have hp := (blk_cell HP.out 2).trans rfl
            have HH0 := Aside0.mk h
            clear h
            go_wp2_with fail
            refine (num_ReadV.calls k _ b1 b2 b3 _ HT.out).mono ?_
            rintro e w1 ⟨rfl, hb⟩
            have HC1 := Aside0.mk (blk_below HC.out hb.below)
            have HP1 := Aside0.mk (blk_below HP.out hb.below)
            have HB1 := Aside0.mk (below_step HB.out hb.below)
            clear hb hp
            cases b3 with
            | false =>
              have HH := Aside0.mk ((if_neg (by decide)).symm.trans HH0.out)
              clear HH0
              have hf0 := blk_frozen HC1.out 0
              have hf1 := blk_frozen HC1.out 1
              have hf2 := blk_frozen HC1.out 2
              have hc0 := (blk_cell HC1.out 0).trans rfl
              have hc1 := (blk_cell HC1.out 1).trans rfl
              have hc2 := (blk_cell HC1.out 2).trans rfl
              go_wp2
              have HH := HH.out
              simp only [Option.some.injEq, Prod.mk.injEq] at HH
              obtain ⟨rfl, rfl, rfl, rfl, rfl⟩ := HH
              refine bodyPost_ret (results_ctt rfl _ _ w.heap.size 23 #[.int .i64 0, .int .i64 0, .int .i64 0] (0, 0) _ rfl (blk_set (blk_set (blk_set HC1.out 0 (.int .i64 0)) 1 (.int .i64 0)) 2 (.int .i64 0)) Try.underlying23 rfl (by kernel_rfl)) rfl ?_
              exact ⟨rfl, below_set (below_set (below_set HB1.out (Nat.le_refl _)) (Nat.le_refl _)) (Nat.le_refl _)⟩
            | true =>
              have HH1 := Aside0.mk ((if_pos rfl).symm.trans HH0.out)
              clear HH0
              by_cases zm : b1 > 2147483647
              · have HH := Aside0.mk ((if_pos zm).symm.trans HH1.out)
                clear HH1
                have zd : decide (2147483647 < b1) = true := decide_eq_true zm
                clear zm
                have hf0 := blk_frozen HC1.out 0
                have hf1 := blk_frozen HC1.out 1
                have hf2 := blk_frozen HC1.out 2
                have hc0 := (blk_cell HC1.out 0).trans rfl
                have hc1 := (blk_cell HC1.out 1).trans rfl
                have hc2 := (blk_cell HC1.out 2).trans rfl
                go_wp2
                have HH := HH.out
                simp only [Option.some.injEq, Prod.mk.injEq] at HH
                obtain ⟨rfl, rfl, rfl, rfl, rfl⟩ := HH
                refine bodyPost_ret (results_ctt rfl _ _ w.heap.size 23 #[.int .i64 0, .int .i64 0, .int .i64 0] (0, 0) _ rfl (blk_set (blk_set (blk_set HC1.out 0 (.int .i64 0)) 1 (.int .i64 0)) 2 (.int .i64 0)) Try.underlying23 rfl (by kernel_rfl)) rfl ?_
                exact ⟨rfl, below_set (below_set (below_set HB1.out (Nat.le_refl _)) (Nat.le_refl _)) (Nat.le_refl _)⟩
              · have HH := Aside0.mk ((if_neg zm).symm.trans HH1.out)
                clear HH1
                have zd : decide (2147483647 < b1) = false := decide_eq_false zm
                clear zm
                have hf := blk_frozen HC1.out 2
                have hc := (blk_cell HC1.out 2).trans rfl
                go_wp2
                go_roundg 0
                case measure => omega
                case rel => exact ⟨0, c0, c1, (wrap64 b1), wrap64 (size + b2), rfl, by omega, rfl, rfl, HH, ⟨blk_set HC1.out 2 (.int .i64 (wrap64 b1))⟩, ⟨blk_far HP1.out (by simp) _⟩, ⟨below_set HB1.out (Nat.le_refl _)⟩⟩
          · have hp := (blk_cell HP.out 1).trans rfl
            have HH0 := Aside0.mk h
            clear h
            go_wp2_with fail
            refine (num_ReadV.calls k _ b1 b2 b3 _ HT.out).mono ?_
            rintro e w1 ⟨rfl, hb⟩
            have HC1 := Aside0.mk (blk_below HC.out hb.below)
            have HP1 := Aside0.mk (blk_below HP.out hb.below)
            have HB1 := Aside0.mk (below_step HB.out hb.below)
            clear hb hp
            cases b3 with
            | false =>
              have HH := Aside0.mk ((if_neg (by decide)).symm.trans HH0.out)
              clear HH0
              have hf0 := blk_frozen HC1.out 0
              have hf1 := blk_frozen HC1.out 1
              have hf2 := blk_frozen HC1.out 2
              have hc0 := (blk_cell HC1.out 0).trans rfl
              have hc1 := (blk_cell HC1.out 1).trans rfl
              have hc2 := (blk_cell HC1.out 2).trans rfl
              go_wp2
              have HH := HH.out
              simp only [Option.some.injEq, Prod.mk.injEq] at HH
              obtain ⟨rfl, rfl, rfl, rfl, rfl⟩ := HH
              refine bodyPost_ret (results_ctt rfl _ _ w.heap.size 23 #[.int .i64 0, .int .i64 0, .int .i64 0] (0, 0) _ rfl (blk_set (blk_set (blk_set HC1.out 0 (.int .i64 0)) 1 (.int .i64 0)) 2 (.int .i64 0)) Try.underlying23 rfl (by kernel_rfl)) rfl ?_
              exact ⟨rfl, below_set (below_set (below_set HB1.out (Nat.le_refl _)) (Nat.le_refl _)) (Nat.le_refl _)⟩
            | true =>
              have HH1 := Aside0.mk ((if_pos rfl).symm.trans HH0.out)
              clear HH0
              by_cases zm : b1 > 2147483647
              · have HH := Aside0.mk ((if_pos zm).symm.trans HH1.out)
                clear HH1
                have zd : decide (2147483647 < b1) = true := decide_eq_true zm
                clear zm
                have hf0 := blk_frozen HC1.out 0
                have hf1 := blk_frozen HC1.out 1
                have hf2 := blk_frozen HC1.out 2
                have hc0 := (blk_cell HC1.out 0).trans rfl
                have hc1 := (blk_cell HC1.out 1).trans rfl
                have hc2 := (blk_cell HC1.out 2).trans rfl
                go_wp2
                have HH := HH.out
                simp only [Option.some.injEq, Prod.mk.injEq] at HH
                obtain ⟨rfl, rfl, rfl, rfl, rfl⟩ := HH
                refine bodyPost_ret (results_ctt rfl _ _ w.heap.size 23 #[.int .i64 0, .int .i64 0, .int .i64 0] (0, 0) _ rfl (blk_set (blk_set (blk_set HC1.out 0 (.int .i64 0)) 1 (.int .i64 0)) 2 (.int .i64 0)) Try.underlying23 rfl (by kernel_rfl)) rfl ?_
                exact ⟨rfl, below_set (below_set (below_set HB1.out (Nat.le_refl _)) (Nat.le_refl _)) (Nat.le_refl _)⟩
              · have HH := Aside0.mk ((if_neg zm).symm.trans HH1.out)
                clear HH1
                have zd : decide (2147483647 < b1) = false := decide_eq_false zm
                clear zm
                have hf := blk_frozen HC1.out 1
                have hc := (blk_cell HC1.out 1).trans rfl
                go_wp2
                go_roundg 1
                case measure => omega
                case rel => exact ⟨1, c0, (wrap64 b1), c2, wrap64 (size + b2), rfl, by omega, rfl, rfl, HH, ⟨blk_set HC1.out 1 (.int .i64 (wrap64 b1))⟩, ⟨blk_far HP1.out (by simp) _⟩, ⟨below_set HB1.out (Nat.le_refl _)⟩⟩
          · have hp := (blk_cell HP.out 0).trans rfl
            have HH0 := Aside0.mk h
            clear h
            go_wp2_with fail
            refine (num_ReadV.calls k _ b1 b2 b3 _ HT.out).mono ?_
            rintro e w1 ⟨rfl, hb⟩
            have HC1 := Aside0.mk (blk_below HC.out hb.below)
            have HP1 := Aside0.mk (blk_below HP.out hb.below)
            have HB1 := Aside0.mk (below_step HB.out hb.below)
            clear hb hp
            cases b3 with
            | false =>
              have HH := Aside0.mk ((if_neg (by decide)).symm.trans HH0.out)
              clear HH0
              have hf0 := blk_frozen HC1.out 0
              have hf1 := blk_frozen HC1.out 1
              have hf2 := blk_frozen HC1.out 2
              have hc0 := (blk_cell HC1.out 0).trans rfl
              have hc1 := (blk_cell HC1.out 1).trans rfl
              have hc2 := (blk_cell HC1.out 2).trans rfl
              go_wp2
              have HH := HH.out
              simp only [Option.some.injEq, Prod.mk.injEq] at HH
              obtain ⟨rfl, rfl, rfl, rfl, rfl⟩ := HH
              refine bodyPost_ret (results_ctt rfl _ _ w.heap.size 23 #[.int .i64 0, .int .i64 0, .int .i64 0] (0, 0) _ rfl (blk_set (blk_set (blk_set HC1.out 0 (.int .i64 0)) 1 (.int .i64 0)) 2 (.int .i64 0)) Try.underlying23 rfl (by kernel_rfl)) rfl ?_
              exact ⟨rfl, below_set (below_set (below_set HB1.out (Nat.le_refl _)) (Nat.le_refl _)) (Nat.le_refl _)⟩
            | true =>
              have HH1 := Aside0.mk ((if_pos rfl).symm.trans HH0.out)
              clear HH0
              by_cases zm : b1 > 2147483647
              · have HH := Aside0.mk ((if_pos zm).symm.trans HH1.out)
                clear HH1
                have zd : decide (2147483647 < b1) = true := decide_eq_true zm
                clear zm
                have hf0 := blk_frozen HC1.out 0
                have hf1 := blk_frozen HC1.out 1
                have hf2 := blk_frozen HC1.out 2
                have hc0 := (blk_cell HC1.out 0).trans rfl
                have hc1 := (blk_cell HC1.out 1).trans rfl
                have hc2 := (blk_cell HC1.out 2).trans rfl
                go_wp2
                have HH := HH.out
                simp only [Option.some.injEq, Prod.mk.injEq] at HH
                obtain ⟨rfl, rfl, rfl, rfl, rfl⟩ := HH
                refine bodyPost_ret (results_ctt rfl _ _ w.heap.size 23 #[.int .i64 0, .int .i64 0, .int .i64 0] (0, 0) _ rfl (blk_set (blk_set (blk_set HC1.out 0 (.int .i64 0)) 1 (.int .i64 0)) 2 (.int .i64 0)) Try.underlying23 rfl (by kernel_rfl)) rfl ?_
                exact ⟨rfl, below_set (below_set (below_set HB1.out (Nat.le_refl _)) (Nat.le_refl _)) (Nat.le_refl _)⟩
              · have HH := Aside0.mk ((if_neg zm).symm.trans HH1.out)
                clear HH1
                have zd : decide (2147483647 < b1) = false := decide_eq_false zm
                clear zm
                have hf := blk_frozen HC1.out 0
                have hc := (blk_cell HC1.out 0).trans rfl
                go_wp2
                go_roundg 2
                case measure => omega
                case rel => exact ⟨2, (wrap64 b1), c1, c2, wrap64 (size + b2), rfl, by omega, rfl, rfl, HH, ⟨blk_set HC1.out 0 (.int .i64 (wrap64 b1))⟩, ⟨blk_far HP1.out (by simp) _⟩, ⟨below_set HB1.out (Nat.le_refl _)⟩⟩
        · rw [if_neg z1] at h; cases h
      · rw [if_neg z0] at h; cases h

end Go.Proofs.Ytfpeacjodgdndaa.P
