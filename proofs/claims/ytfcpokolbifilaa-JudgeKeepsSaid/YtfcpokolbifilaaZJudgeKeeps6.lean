/- The law 'JudgeKeeps' returns true for all arguments: what its proof stands on, part 6. -/
import Derived.Test.YtfcpokolbifilaaZJudgeKeeps5
namespace Go.Proofs.Ytfcpokolbifilaa.Wt
open Go Go.Proofs.Ytfcpokolbifilaa.Am Go.Proofs.Ytfcpokolbifilaa.IrAll
open Go.Proofs.Ytfcpokolbifilaa.Am.WS renaming op → C
open Nat renaming le_of_ble_eq_true → D
open Go.Proofs.Ytfcpokolbifilaa.Am.WS renaming off → F
open Go.Proofs.Ytfcpokolbifilaa.Am.WS renaming nil → G
set_option linter.unusedVariables false
set_option linter.unusedSimpArgs false
variable {h base : H} {L : List Seg} {R : List Nat}
def Two (i j : Nat) (a b : JOp) : Prop := ¬ (i ≠ j ∧ a.rd = false ∧ b.rd = false ∧ a.pl.toNat = b.pl.toNat) ∧ ¬ (a.tl.toInt < b.ak.toInt ∧ ¬ kLt a b)
def RightL (l : List JOp) : Prop := ∀ i a, l[i]? = some a → a.ak.toInt ≤ a.tl.toInt ∧ ∀ j b, l[j]? = some b → Two i j a b
theorem Right_ran (W : Mem h h [] []) {V : Value} {l : List JOp} (A : KJOp.Sl h V l) (hl : l.length ≤ 60) : Cll tab0 11 [V] h (fun v h2 => ∃ g, v = .bool g ∧ (g = true ↔ RightL l) ∧ Mem h h2 [] []) := by
  obtain ⟨Pl, nl, rfl⟩ := A.shape
  refine Cll.code rfl rfl ?_
  refine WC.env [(0, _)] rfl ?_
  refine WC.seq (WC.run (C rfl rfl (G [(0, _)] rfl ?_)))
  refine WC.seq (WC.seq (WC.run (C rfl rfl (C rfl (op_lenVS A rfl) (C rfl rfl (G [(0, _), (7, _), (8, _), (9, _)] rfl ?_))))))
  refine WC.block ?_
  obtain ⟨L1, eL3, M2⟩ := Mem.name W.bare
  refine WC.loop (σ := Nat) (fun (i) => [(0, (.slice Pl l.length nl)), (7, (.slice Pl l.length nl)), (8, (.int .i64 (((l).length : Nat) : Int))), (9, (.int .i64 ((i : Nat) : Int)))]) (fun (i) hh => Mem h hh (L1) [] ∧ i ≤ l.length ∧ ∀ k a, k < i → l[k]? = some a → a.ak.toInt ≤ a.tl.toInt ∧ ∀ j b, l[j]? = some b → Two k j a b) (fun (i) => l.length - i) (0) rfl ⟨M2, ?_⟩ ?_
  · exact ⟨by omega, fun k a q => by omega⟩
  ·rintro i h4 ⟨M5, ⟨hi, hI⟩⟩
   replace eL3 := eL3.symm; subst eL3
   refine WC.env [(0, _), (7, _), (8, _), (9, _)] rfl ?_
   refine WC.seq (WC.run (WS.lssN (a := i) (b := (l).length) rfl rfl rfl (fun e10 => ?_) (fun e10 => ?_)))
   ·
    refine G [(0, _), (7, _), (8, _), (9, _), (10, _)] rfl ?_
    refine WC.seq (WC.condT rfl (WC.skip (WC.seq (WC.block (WC.seq (WC.run (C rfl rfl ?_)))))))
    obtain ⟨y12, hy12⟩ : ∃ y, (l)[i]? = some y := ⟨_, List.getElem?_eq_getElem (show i < (l).length by first | omega | (simp only [List.length_drop, List.length_take, List.length_append, List.length_cons, List.length_nil, List.length_singleton]; omega) | (simp only [List.length_drop, List.length_take, List.length_append, List.length_cons, List.length_nil, List.length_singleton] at *; omega))⟩
    refine WS.iaVS A i hy12 rfl rfl rfl rfl ?_
    intro b12_ o12_ ha12
    refine C rfl (op_ldAt rfl (ha12.mono M5.sub) rfl) ?_
    refine WS.new M5 rfl ?_
    intro p6 h7 M8
    refine C rfl rfl ?_
    refine WS.st1 (M8.focus 0 rfl) [_, _, _, _] [_, _, _, _] rfl rfl rfl rfl rfl (D rfl) (D rfl) rfl rfl ?_
    intro h9 M10
    replace M10 : Mem _ _ ([(p6, _)] :: []) _ := M10
    refine G [(0, _), (3, _), (4, _), (7, _), (8, _), (9, _)] rfl ?_
    refine WC.seq (WC.seq (WC.run (C rfl rfl (C rfl (op_ld (M10.at 0 rfl) rfl rfl) (C rfl rfl (C rfl (op_ld (M10.at 0 rfl) rfl rfl) ?_))))))
    refine WS.gtr (a := (y12.ak).toInt) (b := (y12.tl).toInt) rfl rfl rfl (fun e18 => ?_) (fun e18 => ?_)
    ·
     refine G [(0, _), (3, _), (4, _), (7, _), (8, _), (9, _), (18, _)] rfl ?_
     refine WC.condT rfl (WC.seq (WC.run (C rfl rfl (G [(2, _)] rfl ?_))))
     refine WC.ret (⟨[_], (res_tmp rfl res_nil), ?_⟩)
     refine ⟨_, rfl, ⟨fun q => (nomatch q), fun hr => ?_⟩, M10.bare.take 0⟩
     exfalso
     first
     | (have := (hr i y12 hy12).1; omega)
     | (obtain ⟨t1, t2⟩ := (hr i y12 hy12).2 j y24 hy24
        first
        | exact t1 ⟨by omega, by assumption, by assumption, by omega⟩
        | (cases y12; cases y24; dsimp only at *; simp_all; done))
    ·
     refine G [(0, _), (3, _), (4, _), (7, _), (8, _), (9, _), (18, _)] rfl ?_
     refine WC.condF rfl (WC.skip (WC.seq (WC.run (C rfl rfl (C rfl (op_lenVS A rfl) (C rfl rfl (G [(0, _), (3, _), (4, _), (7, _), (8, _), (9, _), (19, _), (20, _), (21, _)] rfl ?_)))))))
     refine WC.block ?_
     obtain ⟨L11, eL13, M12⟩ := Mem.name M10.bare
     refine WC.loop (σ := Nat) (fun (j) => [(0, (.slice Pl l.length nl)), (3, (.int .i64 ((i : Nat) : Int))), (4, (.pointer (some ⟨p6, 0, none⟩))), (7, (.slice Pl l.length nl)), (8, (.int .i64 (((l).length : Nat) : Int))), (9, (.int .i64 ((i : Nat) : Int))), (19, (.slice Pl l.length nl)), (20, (.int .i64 (((l).length : Nat) : Int))), (21, (.int .i64 ((j : Nat) : Int)))]) (fun (j) hh => Mem h hh (L11) [] ∧ j ≤ l.length ∧ ∀ k b, k < j → l[k]? = some b → Two i k y12 b) (fun (j) => l.length - j) (0) rfl ⟨M12, ?_⟩ ?_
     · exact ⟨by omega, fun k a q => by omega⟩
     ·rintro j h14 ⟨M15, ⟨hj, hJ⟩⟩
      replace eL13 := eL13.symm; subst eL13
      refine WC.env [(0, _), (3, _), (4, _), (7, _), (8, _), (9, _), (19, _), (20, _), (21, _)] rfl ?_
      refine WC.seq (WC.run (WS.lssN (a := j) (b := (l).length) rfl rfl rfl (fun e22 => ?_) (fun e22 => ?_)))
      ·
       refine G [(0, _), (3, _), (4, _), (7, _), (8, _), (9, _), (19, _), (20, _), (21, _), (22, _)] rfl ?_
       refine WC.seq (WC.condT rfl (WC.skip (WC.seq (WC.block (WC.seq (WC.run (C rfl rfl ?_)))))))
       obtain ⟨y24, hy24⟩ : ∃ y, (l)[j]? = some y := ⟨_, List.getElem?_eq_getElem (show j < (l).length by first | omega | (simp only [List.length_drop, List.length_take, List.length_append, List.length_cons, List.length_nil, List.length_singleton]; omega) | (simp only [List.length_drop, List.length_take, List.length_append, List.length_cons, List.length_nil, List.length_singleton] at *; omega))⟩
       refine WS.iaVS A j hy24 rfl rfl rfl rfl ?_
       intro b24_ o24_ ha24
       refine C rfl (op_ldAt rfl (ha24.mono M15.sub) rfl) ?_
       refine WS.new M15 rfl ?_
       intro p16 h17 M18
       refine C rfl rfl ?_
       refine WS.st1 (M18.focus 0 rfl) [_, _, _, _] [_, _, _, _] rfl rfl rfl rfl rfl (D rfl) (D rfl) rfl rfl ?_
       intro h19 M20
       replace M20 : Mem _ _ ([(p16, _)] :: [(p6, _)] :: []) _ := M20
       refine G [(0, _), (3, _), (4, _), (5, _), (6, _), (7, _), (8, _), (9, _), (19, _), (20, _), (21, _)] rfl ?_
       refine WC.seq (WC.run (C rfl rfl (C rfl rfl ?_)))
       refine WS.neqN (a := i) (b := j) rfl rfl rfl (fun e28 => ?_) (fun e28 => ?_)
       ·
        refine C rfl rfl (C rfl rfl (C rfl (op_ld (M20.at 1 rfl) rfl rfl) ?_))
        generalize hb1 : y12.rd = vhb1 at *; cases vhb1
        ·
         refine WS.opV (.bool true) rfl rfl rfl (C rfl rfl (C rfl rfl (C rfl rfl (C rfl (op_ld (M20.at 0 rfl) rfl rfl) ?_))))
         generalize hb2 : y24.rd = vhb2 at *; cases vhb2
         ·
          refine WS.opV (.bool true) rfl rfl rfl (C rfl rfl (C rfl rfl (C rfl rfl (C rfl (op_ld (M20.at 1 rfl) rfl rfl) (C rfl rfl (C rfl (op_ld (M20.at 0 rfl) rfl rfl) ?_))))))
          refine WS.eqlN (a := (y12.pl).toNat) (b := (y24.pl).toNat) rfl rfl rfl (fun e44 => ?_) (fun e44 => ?_)
          ·
           refine C rfl rfl (C rfl rfl (F rfl (F rfl (F rfl (F rfl (F rfl (F rfl (F rfl (F rfl ?_)))))))))
           refine WS.offC rfl (F rfl (F rfl (C rfl rfl (G [(0, _), (3, _), (4, _), (7, _), (8, _), (9, _), (19, _), (20, _), (21, _), (58, _)] rfl ?_))))
           refine WC.condT rfl (WC.seq (WC.run (C rfl rfl (G [(2, _)] rfl ?_))))
           refine WC.ret (⟨[_], (res_tmp rfl res_nil), ?_⟩)
           refine ⟨_, rfl, ⟨fun q => (nomatch q), fun hr => ?_⟩, M20.bare.take 0⟩
           exfalso
           first
           | (have := (hr i y12 hy12).1; omega)
           | (obtain ⟨t1, t2⟩ := (hr i y12 hy12).2 j y24 hy24
              first
              | exact t1 ⟨by omega, by assumption, by assumption, by omega⟩
              | (cases y12; cases y24; dsimp only at *; simp_all; done))
          ·
           refine C rfl rfl (C rfl rfl (C rfl rfl (C rfl (op_ld (M20.at 1 rfl) rfl rfl) (C rfl rfl (C rfl (op_ld (M20.at 0 rfl) rfl rfl) ?_)))))
           refine WS.lss (a := (y12.tl).toInt) (b := (y24.ak).toInt) rfl rfl rfl (fun e51 => ?_) (fun e51 => ?_)
           ·
            refine C rfl rfl (C rfl (op_lds [_, _, _, _] (M20.at 1 rfl) rfl (D rfl) rfl) (C rfl (op_lds [_, _, _, _] (M20.at 0 rfl) rfl (D rfl) rfl) ?_))
            refine WS.call rfl rfl rfl (Ahead_ran M20.here (a := (⟨y12.ak, y12.tl, y12.pl, false⟩ : JOp)) (b := (⟨y24.ak, y24.tl, y24.pl, false⟩ : JOp))) ?_
            rintro _ h21 ⟨rfl, N22⟩
            have M23 := M20.trans N22
            generalize hb3 : (decide (kLt (⟨y12.ak, y12.tl, y12.pl, false⟩ : JOp) (⟨y24.ak, y24.tl, y24.pl, false⟩ : JOp))) = vhb3 at *; cases vhb3
            ·
             refine WS.opV (.bool true) rfl rfl rfl (C rfl rfl (C rfl rfl (G [(0, _), (3, _), (4, _), (7, _), (8, _), (9, _), (19, _), (20, _), (21, _), (58, _)] rfl ?_)))
             refine WC.condT rfl (WC.seq (WC.run (C rfl rfl (G [(2, _)] rfl ?_))))
             refine WC.ret (⟨[_], (res_tmp rfl res_nil), ?_⟩)
             refine ⟨_, rfl, ⟨fun q => (nomatch q), fun hr => ?_⟩, M23.bare.take 0⟩
             exfalso
             first
             | (have := (hr i y12 hy12).1; omega)
             | (obtain ⟨t1, t2⟩ := (hr i y12 hy12).2 j y24 hy24
                first
                | exact t1 ⟨by omega, by assumption, by assumption, by omega⟩
                | (cases y12; cases y24; dsimp only at *; simp_all; done))
            ·
             refine WS.opV (.bool false) rfl rfl rfl (C rfl rfl (C rfl rfl (G [(0, _), (3, _), (4, _), (7, _), (8, _), (9, _), (19, _), (20, _), (21, _), (58, _)] rfl ?_)))
             refine WC.condF rfl (WC.skip (WC.run (WS.opV (.int .i64 (((j + 1) : Nat) : Int)) rfl rfl (add_i64 (a := j) (b := 1) (by omega)) (C rfl rfl (G [(0, _), (3, _), (4, _), (7, _), (8, _), (9, _), (19, _), (20, _), (21, _)] rfl ?_)))))
             refine ⟨j + 1, rfl, ⟨((M23.bare.focus 1 rfl).take 1), ?_⟩, ?_⟩
             · exact ⟨by omega, fun k b q hb => by by_cases c : k = j; (subst c; rw [hy24] at hb; cases hb; exact ⟨fun ⟨p1, p2, p3, p4⟩ => by first | omega | (simp_all; done), fun ⟨p1, p2⟩ => by first | omega | (cases y12; cases y24; dsimp only at *; simp_all; done)⟩); exact hJ k b (by omega) hb⟩
             · simp only []; omega
           ·
            refine C rfl rfl (F rfl (F rfl (WS.offC rfl (F rfl (C rfl rfl (C rfl rfl (G [(0, _), (3, _), (4, _), (7, _), (8, _), (9, _), (19, _), (20, _), (21, _), (58, _)] rfl ?_)))))))
            refine WC.condF rfl (WC.skip (WC.run (WS.opV (.int .i64 (((j + 1) : Nat) : Int)) rfl rfl (add_i64 (a := j) (b := 1) (by omega)) (C rfl rfl (G [(0, _), (3, _), (4, _), (7, _), (8, _), (9, _), (19, _), (20, _), (21, _)] rfl ?_)))))
            refine ⟨j + 1, rfl, ⟨((M20.bare.focus 1 rfl).take 1), ?_⟩, ?_⟩
            · exact ⟨by omega, fun k b q hb => by by_cases c : k = j; (subst c; rw [hy24] at hb; cases hb; exact ⟨fun ⟨p1, p2, p3, p4⟩ => by first | omega | (simp_all; done), fun ⟨p1, p2⟩ => by first | omega | (cases y12; cases y24; dsimp only at *; simp_all; done)⟩); exact hJ k b (by omega) hb⟩
            · simp only []; omega
         ·
          refine WS.opV (.bool false) rfl rfl rfl (C rfl rfl (C rfl rfl (F rfl (F rfl (F rfl (F rfl (F rfl (C rfl rfl (C rfl rfl ?_)))))))))
          refine C rfl rfl (C rfl (op_ld (M20.at 1 rfl) rfl rfl) (C rfl rfl (C rfl (op_ld (M20.at 0 rfl) rfl rfl) ?_)))
          refine WS.lss (a := (y12.tl).toInt) (b := (y24.ak).toInt) rfl rfl rfl (fun e51 => ?_) (fun e51 => ?_)
          ·
           refine C rfl rfl (C rfl (op_lds [_, _, _, _] (M20.at 1 rfl) rfl (D rfl) rfl) (C rfl (op_lds [_, _, _, _] (M20.at 0 rfl) rfl (D rfl) rfl) ?_))
           refine WS.call rfl rfl rfl (Ahead_ran M20.here (a := (⟨y12.ak, y12.tl, y12.pl, false⟩ : JOp)) (b := (⟨y24.ak, y24.tl, y24.pl, true⟩ : JOp))) ?_
           rintro _ h24 ⟨rfl, N25⟩
           have M26 := M20.trans N25
           generalize hb4 : (decide (kLt (⟨y12.ak, y12.tl, y12.pl, false⟩ : JOp) (⟨y24.ak, y24.tl, y24.pl, true⟩ : JOp))) = vhb4 at *; cases vhb4
           ·
            refine WS.opV (.bool true) rfl rfl rfl (C rfl rfl (C rfl rfl (G [(0, _), (3, _), (4, _), (7, _), (8, _), (9, _), (19, _), (20, _), (21, _), (58, _)] rfl ?_)))
            refine WC.condT rfl (WC.seq (WC.run (C rfl rfl (G [(2, _)] rfl ?_))))
            refine WC.ret (⟨[_], (res_tmp rfl res_nil), ?_⟩)
            refine ⟨_, rfl, ⟨fun q => (nomatch q), fun hr => ?_⟩, M26.bare.take 0⟩
            exfalso
            first
            | (have := (hr i y12 hy12).1; omega)
            | (obtain ⟨t1, t2⟩ := (hr i y12 hy12).2 j y24 hy24
               first
               | exact t1 ⟨by omega, by assumption, by assumption, by omega⟩
               | (cases y12; cases y24; dsimp only at *; simp_all; done))
           ·
            refine WS.opV (.bool false) rfl rfl rfl (C rfl rfl (C rfl rfl (G [(0, _), (3, _), (4, _), (7, _), (8, _), (9, _), (19, _), (20, _), (21, _), (58, _)] rfl ?_)))
            refine WC.condF rfl (WC.skip (WC.run (WS.opV (.int .i64 (((j + 1) : Nat) : Int)) rfl rfl (add_i64 (a := j) (b := 1) (by omega)) (C rfl rfl (G [(0, _), (3, _), (4, _), (7, _), (8, _), (9, _), (19, _), (20, _), (21, _)] rfl ?_)))))
            refine ⟨j + 1, rfl, ⟨((M26.bare.focus 1 rfl).take 1), ?_⟩, ?_⟩
            · exact ⟨by omega, fun k b q hb => by by_cases c : k = j; (subst c; rw [hy24] at hb; cases hb; exact ⟨fun ⟨p1, p2, p3, p4⟩ => by first | omega | (simp_all; done), fun ⟨p1, p2⟩ => by first | omega | (cases y12; cases y24; dsimp only at *; simp_all; done)⟩); exact hJ k b (by omega) hb⟩
            · simp only []; omega
          ·
           refine C rfl rfl (F rfl (F rfl (WS.offC rfl (F rfl (C rfl rfl (C rfl rfl (G [(0, _), (3, _), (4, _), (7, _), (8, _), (9, _), (19, _), (20, _), (21, _), (58, _)] rfl ?_)))))))
           refine WC.condF rfl (WC.skip (WC.run (WS.opV (.int .i64 (((j + 1) : Nat) : Int)) rfl rfl (add_i64 (a := j) (b := 1) (by omega)) (C rfl rfl (G [(0, _), (3, _), (4, _), (7, _), (8, _), (9, _), (19, _), (20, _), (21, _)] rfl ?_)))))
           refine ⟨j + 1, rfl, ⟨((M20.bare.focus 1 rfl).take 1), ?_⟩, ?_⟩
           · exact ⟨by omega, fun k b q hb => by by_cases c : k = j; (subst c; rw [hy24] at hb; cases hb; exact ⟨fun ⟨p1, p2, p3, p4⟩ => by first | omega | (simp_all; done), fun ⟨p1, p2⟩ => by first | omega | (cases y12; cases y24; dsimp only at *; simp_all; done)⟩); exact hJ k b (by omega) hb⟩
           · simp only []; omega
        ·
         refine WS.opV (.bool false) rfl rfl rfl (C rfl rfl (C rfl rfl (F rfl (F rfl (F rfl (C rfl rfl (C rfl rfl (F rfl (F rfl ?_)))))))))
         refine F rfl (F rfl (F rfl (C rfl rfl (C rfl rfl (C rfl rfl (C rfl (op_ld (M20.at 1 rfl) rfl rfl) (C rfl rfl (C rfl (op_ld (M20.at 0 rfl) rfl rfl) ?_))))))))
         refine WS.lss (a := (y12.tl).toInt) (b := (y24.ak).toInt) rfl rfl rfl (fun e51 => ?_) (fun e51 => ?_)
         ·
          refine C rfl rfl (C rfl (op_lds [_, _, _, _] (M20.at 1 rfl) rfl (D rfl) rfl) (C rfl (op_lds [_, _, _, _] (M20.at 0 rfl) rfl (D rfl) rfl) ?_))
          refine WS.call rfl rfl rfl (Ahead_ran M20.here (a := (⟨y12.ak, y12.tl, y12.pl, true⟩ : JOp)) (b := y24)) ?_
          rintro _ h27 ⟨rfl, N28⟩
          have M29 := M20.trans N28
          generalize hb5 : (decide (kLt (⟨y12.ak, y12.tl, y12.pl, true⟩ : JOp) y24)) = vhb5 at *; cases vhb5
          ·
           refine WS.opV (.bool true) rfl rfl rfl (C rfl rfl (C rfl rfl (G [(0, _), (3, _), (4, _), (7, _), (8, _), (9, _), (19, _), (20, _), (21, _), (58, _)] rfl ?_)))
           refine WC.condT rfl (WC.seq (WC.run (C rfl rfl (G [(2, _)] rfl ?_))))
           refine WC.ret (⟨[_], (res_tmp rfl res_nil), ?_⟩)
           refine ⟨_, rfl, ⟨fun q => (nomatch q), fun hr => ?_⟩, M29.bare.take 0⟩
           exfalso
           first
           | (have := (hr i y12 hy12).1; omega)
           | (obtain ⟨t1, t2⟩ := (hr i y12 hy12).2 j y24 hy24
              first
              | exact t1 ⟨by omega, by assumption, by assumption, by omega⟩
              | (cases y12; cases y24; dsimp only at *; simp_all; done))
          ·
           refine WS.opV (.bool false) rfl rfl rfl (C rfl rfl (C rfl rfl (G [(0, _), (3, _), (4, _), (7, _), (8, _), (9, _), (19, _), (20, _), (21, _), (58, _)] rfl ?_)))
           refine WC.condF rfl (WC.skip (WC.run (WS.opV (.int .i64 (((j + 1) : Nat) : Int)) rfl rfl (add_i64 (a := j) (b := 1) (by omega)) (C rfl rfl (G [(0, _), (3, _), (4, _), (7, _), (8, _), (9, _), (19, _), (20, _), (21, _)] rfl ?_)))))
           refine ⟨j + 1, rfl, ⟨((M29.bare.focus 1 rfl).take 1), ?_⟩, ?_⟩
           · exact ⟨by omega, fun k b q hb => by by_cases c : k = j; (subst c; rw [hy24] at hb; cases hb; exact ⟨fun ⟨p1, p2, p3, p4⟩ => by first | omega | (simp_all; done), fun ⟨p1, p2⟩ => by first | omega | (cases y12; cases y24; dsimp only at *; simp_all; done)⟩); exact hJ k b (by omega) hb⟩
           · simp only []; omega
         ·
          refine C rfl rfl (F rfl (F rfl (WS.offC rfl (F rfl (C rfl rfl (C rfl rfl (G [(0, _), (3, _), (4, _), (7, _), (8, _), (9, _), (19, _), (20, _), (21, _), (58, _)] rfl ?_)))))))
          refine WC.condF rfl (WC.skip (WC.run (WS.opV (.int .i64 (((j + 1) : Nat) : Int)) rfl rfl (add_i64 (a := j) (b := 1) (by omega)) (C rfl rfl (G [(0, _), (3, _), (4, _), (7, _), (8, _), (9, _), (19, _), (20, _), (21, _)] rfl ?_)))))
          refine ⟨j + 1, rfl, ⟨((M20.bare.focus 1 rfl).take 1), ?_⟩, ?_⟩
          · exact ⟨by omega, fun k b q hb => by by_cases c : k = j; (subst c; rw [hy24] at hb; cases hb; exact ⟨fun ⟨p1, p2, p3, p4⟩ => by first | omega | (simp_all; done), fun ⟨p1, p2⟩ => by first | omega | (cases y12; cases y24; dsimp only at *; simp_all; done)⟩); exact hJ k b (by omega) hb⟩
          · simp only []; omega
       ·
        refine C rfl rfl (F rfl (F rfl (F rfl (C rfl rfl (C rfl rfl (F rfl (F rfl (F rfl (C rfl rfl ?_)))))))))
        refine C rfl rfl (F rfl (F rfl (F rfl (F rfl (F rfl (C rfl rfl (C rfl rfl (C rfl rfl (C rfl (op_ld (M20.at 1 rfl) rfl rfl) ?_)))))))))
        refine C rfl rfl (C rfl (op_ld (M20.at 0 rfl) rfl rfl) ?_)
        refine WS.lss (a := (y12.tl).toInt) (b := (y24.ak).toInt) rfl rfl rfl (fun e51 => ?_) (fun e51 => ?_)
        ·
         refine C rfl rfl (C rfl (op_lds [_, _, _, _] (M20.at 1 rfl) rfl (D rfl) rfl) (C rfl (op_lds [_, _, _, _] (M20.at 0 rfl) rfl (D rfl) rfl) ?_))
         refine WS.call rfl rfl rfl (Ahead_ran M20.here (a := y12) (b := y24)) ?_
         rintro _ h30 ⟨rfl, N31⟩
         have M32 := M20.trans N31
         generalize hb6 : (decide (kLt y12 y24)) = vhb6 at *; cases vhb6
         ·
          refine WS.opV (.bool true) rfl rfl rfl (C rfl rfl (C rfl rfl (G [(0, _), (3, _), (4, _), (7, _), (8, _), (9, _), (19, _), (20, _), (21, _), (58, _)] rfl ?_)))
          refine WC.condT rfl (WC.seq (WC.run (C rfl rfl (G [(2, _)] rfl ?_))))
          refine WC.ret (⟨[_], (res_tmp rfl res_nil), ?_⟩)
          refine ⟨_, rfl, ⟨fun q => (nomatch q), fun hr => ?_⟩, M32.bare.take 0⟩
          exfalso
          first
          | (have := (hr i y12 hy12).1; omega)
          | (obtain ⟨t1, t2⟩ := (hr i y12 hy12).2 j y24 hy24
             first
             | exact t1 ⟨by omega, by assumption, by assumption, by omega⟩
             | (cases y12; cases y24; dsimp only at *; simp_all; done))
         ·
          refine WS.opV (.bool false) rfl rfl rfl (C rfl rfl (C rfl rfl (G [(0, _), (3, _), (4, _), (7, _), (8, _), (9, _), (19, _), (20, _), (21, _), (58, _)] rfl ?_)))
          refine WC.condF rfl (WC.skip (WC.run (WS.opV (.int .i64 (((j + 1) : Nat) : Int)) rfl rfl (add_i64 (a := j) (b := 1) (by omega)) (C rfl rfl (G [(0, _), (3, _), (4, _), (7, _), (8, _), (9, _), (19, _), (20, _), (21, _)] rfl ?_)))))
          refine ⟨j + 1, rfl, ⟨((M32.bare.focus 1 rfl).take 1), ?_⟩, ?_⟩
          · exact ⟨by omega, fun k b q hb => by by_cases c : k = j; (subst c; rw [hy24] at hb; cases hb; exact ⟨fun ⟨p1, p2, p3, p4⟩ => by first | omega | (simp_all; done), fun ⟨p1, p2⟩ => by first | omega | (cases y12; cases y24; dsimp only at *; simp_all; done)⟩); exact hJ k b (by omega) hb⟩
          · simp only []; omega
        ·
         refine C rfl rfl (F rfl (F rfl (WS.offC rfl (F rfl (C rfl rfl (C rfl rfl (G [(0, _), (3, _), (4, _), (7, _), (8, _), (9, _), (19, _), (20, _), (21, _), (58, _)] rfl ?_)))))))
         refine WC.condF rfl (WC.skip (WC.run (WS.opV (.int .i64 (((j + 1) : Nat) : Int)) rfl rfl (add_i64 (a := j) (b := 1) (by omega)) (C rfl rfl (G [(0, _), (3, _), (4, _), (7, _), (8, _), (9, _), (19, _), (20, _), (21, _)] rfl ?_)))))
         refine ⟨j + 1, rfl, ⟨((M20.bare.focus 1 rfl).take 1), ?_⟩, ?_⟩
         · exact ⟨by omega, fun k b q hb => by by_cases c : k = j; (subst c; rw [hy24] at hb; cases hb; exact ⟨fun ⟨p1, p2, p3, p4⟩ => by first | omega | (simp_all; done), fun ⟨p1, p2⟩ => by first | omega | (cases y12; cases y24; dsimp only at *; simp_all; done)⟩); exact hJ k b (by omega) hb⟩
         · simp only []; omega
      ·
       refine G [(0, _), (3, _), (4, _), (7, _), (8, _), (9, _), (19, _), (20, _), (21, _), (22, _)] rfl ?_
       refine WC.seq (WC.condF rfl (WC.exit ?_))
       refine WC.run (WS.opV (.int .i64 (((i + 1) : Nat) : Int)) rfl rfl (add_i64 (a := i) (b := 1) (by omega)) (C rfl rfl (G [(0, _), (7, _), (8, _), (9, _)] rfl ?_)))
       refine ⟨i + 1, rfl, ⟨(M15.bare.take 0), ?_⟩, ?_⟩
       · exact ⟨by omega, fun k a q ha => by by_cases c : k = i; (subst c; rw [hy12] at ha; cases ha; exact ⟨by omega, fun j2 b hb => hJ j2 b (by have := (List.getElem?_eq_some_iff.1 hb).1; omega) hb⟩); exact hI k a (by omega) ha⟩
       · simp only []; omega
   ·
    refine G [(0, _), (7, _), (8, _), (9, _), (10, _)] rfl ?_
    refine WC.seq (WC.condF rfl (WC.exit ?_))
    refine WC.seq (WC.run (C rfl rfl (G [(2, _)] rfl ?_)))
    refine WC.ret (⟨[_], (res_tmp rfl res_nil), ?_⟩)
    exact ⟨_, rfl, ⟨fun _ => fun k a ha => hI k a (by have := (List.getElem?_eq_some_iff.1 ha).1; omega) ha, fun _ => rfl⟩, M5.bare.take 0⟩
end Go.Proofs.Ytfcpokolbifilaa.Wt
namespace Go.Proofs.Ytfcpokolbifilaa.Wt
open Go Go.Proofs.Ytfcpokolbifilaa.Am
set_option linter.unusedVariables false
set_option linter.unusedSimpArgs false
def Bef (l : List JOp) (x y : Nat) : Prop := cmL l x y ∨ (¬ cmL l y x ∧ x < y)
theorem srt_bef {l : List JOp} {e : List Nat} (hs : Srt (cmL l) 0 e.length e) (ha : Alike (cmL l) e) : e.Pairwise (Bef l) := by
  have h1 : e.Pairwise (Le (cmL l)) := by
    have := srt_iff (cm := cmL l) (P := []) (S := e) (Q := [])
    simp only [List.length_nil, Nat.zero_add, List.nil_append, List.append_nil] at this
    exact this.1 hs
  unfold Alike at ha
  refine List.Pairwise.imp₂ (R := Le (cmL l)) (S := fun x y => ¬ cmL l x y → ¬ cmL l y x → x < y) ?_ h1 ha
  intro x y q1 q2
  by_cases c : cmL l x y
  · exact .inl c
  · exact .inr ⟨q1, q2 c q1⟩
end Go.Proofs.Ytfcpokolbifilaa.Wt
