/- The law 'JudgeTells' returns true for all arguments: what its proof stands on, part 6. -/
import Derived.Test.YtfcpokolbifilaaZJudgeTells5
namespace Go.Proofs.Ytfcpokolbifilaa.Wt
open Go Go.Proofs.Ytfcpokolbifilaa.Am Go.Proofs.Ytfcpokolbifilaa.IrAll
open Go.Proofs.Ytfcpokolbifilaa.Am.WS renaming op → C
open Nat renaming le_of_ble_eq_true → D
open Go.Proofs.Ytfcpokolbifilaa.Am.WS renaming off → F
open Go.Proofs.Ytfcpokolbifilaa.Am.WS renaming nil → G
set_option linter.unusedVariables false
set_option linter.unusedSimpArgs false
variable {h base : H} {L : List Seg} {R : List Nat}
def Two (i j : Nat) (a b : JOp) : Prop := ¬ (i ≠ j ∧ a.rd = false ∧ b.rd = false ∧ a.pl.toNat = b.pl.toNat) ∧ ¬ (a.tl.toInt < b.ak.toInt ∧ ¬ kLt a b)
def RightL (l : List JOp) : Prop := ∀ i a, l[i]? = some a → a.ak.toInt ≤ a.tl.toInt ∧ ∀ j b, l[j]? = some b → Two i j a b
theorem Right_ran (W : Mem h h [] []) {V : Value} {l : List JOp} (A : KJOp.Sl h V l) (hl : l.length ≤ 60) : Cll tab0 11 [V] h (fun v h2 => ∃ g, v = .bool g ∧ (g = true ↔ RightL l) ∧ Mem h h2 [] []) := by
  obtain ⟨Pl, nl, rfl⟩ := A.shape
  refine Cll.code rfl rfl ?_
  refine WC.env [(0, _)] rfl ?_
  refine WC.seq (WC.run (C rfl rfl (G [(0, _)] rfl ?_)))
  refine WC.seq (WC.seq (WC.run (C rfl rfl (C rfl (op_lenVS A rfl) (C rfl rfl (G [(0, _), (7, _), (8, _), (9, _)] rfl ?_))))))
  refine WC.block ?_
  obtain ⟨L1, eL3, M2⟩ := Mem.name W.bare
  refine WC.loop (σ := Nat) (fun (i) => [(0, (.slice Pl l.length nl)), (7, (.slice Pl l.length nl)), (8, (.int .i64 (((l).length : Nat) : Int))), (9, (.int .i64 ((i : Nat) : Int)))]) (fun (i) hh => Mem h hh (L1) [] ∧ i ≤ l.length ∧ ∀ k a, k < i → l[k]? = some a → a.ak.toInt ≤ a.tl.toInt ∧ ∀ j b, l[j]? = some b → Two k j a b) (fun (i) => l.length - i) (0) rfl ⟨M2, ?_⟩ ?_
  · exact ⟨by omega, fun k a q => by omega⟩
  ·rintro i h4 ⟨M5, ⟨hi, hI⟩⟩
   replace eL3 := eL3.symm; subst eL3
   refine WC.env [(0, _), (7, _), (8, _), (9, _)] rfl ?_
   refine WC.seq (WC.run (WS.lssN (a := i) (b := (l).length) rfl rfl rfl (fun e10 => ?_) (fun e10 => ?_)))
   ·
    refine G [(0, _), (7, _), (8, _), (9, _), (10, _)] rfl ?_
    refine WC.seq (WC.condT rfl (WC.skip (WC.seq (WC.block (WC.seq (WC.run (C rfl rfl ?_)))))))
    obtain ⟨y12, hy12⟩ : ∃ y, (l)[i]? = some y := ⟨_, List.getElem?_eq_getElem (show i < (l).length by first | omega | (simp only [List.length_drop, List.length_take, List.length_append, List.length_cons, List.length_nil, List.length_singleton]; omega) | (simp only [List.length_drop, List.length_take, List.length_append, List.length_cons, List.length_nil, List.length_singleton] at *; omega))⟩
    refine WS.iaVS A i hy12 rfl rfl rfl rfl ?_
    intro b12_ o12_ ha12
    refine C rfl (op_ldAt rfl (ha12.mono M5.sub) rfl) ?_
    refine WS.new M5 rfl ?_
    intro p6 h7 M8
    refine C rfl rfl ?_
    refine WS.st1 (M8.focus 0 rfl) [_, _, _, _] [_, _, _, _] rfl rfl rfl rfl rfl (D rfl) (D rfl) rfl rfl ?_
    intro h9 M10
    replace M10 : Mem _ _ ([(p6, _)] :: []) _ := M10
    refine G [(0, _), (3, _), (4, _), (7, _), (8, _), (9, _)] rfl ?_
    refine WC.seq (WC.seq (WC.run (C rfl rfl (C rfl (op_ld (M10.at 0 rfl) rfl rfl) (C rfl rfl (C rfl (op_ld (M10.at 0 rfl) rfl rfl) ?_))))))
    refine WS.gtr (a := (y12.ak).toInt) (b := (y12.tl).toInt) rfl rfl rfl (fun e18 => ?_) (fun e18 => ?_)
    ·
     refine G [(0, _), (3, _), (4, _), (7, _), (8, _), (9, _), (18, _)] rfl ?_
     refine WC.condT rfl (WC.seq (WC.run (C rfl rfl (G [(2, _)] rfl ?_))))
     refine WC.ret (⟨[_], (res_tmp rfl res_nil), ?_⟩)
     refine ⟨_, rfl, ⟨fun q => (nomatch q), fun hr => ?_⟩, M10.bare.take 0⟩
     exfalso
     first
     | (have := (hr i y12 hy12).1; omega)
     | (obtain ⟨t1, t2⟩ := (hr i y12 hy12).2 j y24 hy24
        first
        | exact t1 ⟨by omega, by assumption, by assumption, by omega⟩
        | (cases y12; cases y24; dsimp only at *; simp_all; done))
    ·
     refine G [(0, _), (3, _), (4, _), (7, _), (8, _), (9, _), (18, _)] rfl ?_
     refine WC.condF rfl (WC.skip (WC.seq (WC.run (C rfl rfl (C rfl (op_lenVS A rfl) (C rfl rfl (G [(0, _), (3, _), (4, _), (7, _), (8, _), (9, _), (19, _), (20, _), (21, _)] rfl ?_)))))))
     refine WC.block ?_
     obtain ⟨L11, eL13, M12⟩ := Mem.name M10.bare
     refine WC.loop (σ := Nat) (fun (j) => [(0, (.slice Pl l.length nl)), (3, (.int .i64 ((i : Nat) : Int))), (4, (.pointer (some ⟨p6, 0, none⟩))), (7, (.slice Pl l.length nl)), (8, (.int .i64 (((l).length : Nat) : Int))), (9, (.int .i64 ((i : Nat) : Int))), (19, (.slice Pl l.length nl)), (20, (.int .i64 (((l).length : Nat) : Int))), (21, (.int .i64 ((j : Nat) : Int)))]) (fun (j) hh => Mem h hh (L11) [] ∧ j ≤ l.length ∧ ∀ k b, k < j → l[k]? = some b → Two i k y12 b) (fun (j) => l.length - j) (0) rfl ⟨M12, ?_⟩ ?_
     · exact ⟨by omega, fun k a q => by omega⟩
     ·rintro j h14 ⟨M15, ⟨hj, hJ⟩⟩
      replace eL13 := eL13.symm; subst eL13
      refine WC.env [(0, _), (3, _), (4, _), (7, _), (8, _), (9, _), (19, _), (20, _), (21, _)] rfl ?_
      refine WC.seq (WC.run (WS.lssN (a := j) (b := (l).length) rfl rfl rfl (fun e22 => ?_) (fun e22 => ?_)))
      ·
       refine G [(0, _), (3, _), (4, _), (7, _), (8, _), (9, _), (19, _), (20, _), (21, _), (22, _)] rfl ?_
       refine WC.seq (WC.condT rfl (WC.skip (WC.seq (WC.block (WC.seq (WC.run (C rfl rfl ?_)))))))
       obtain ⟨y24, hy24⟩ : ∃ y, (l)[j]? = some y := ⟨_, List.getElem?_eq_getElem (show j < (l).length by first | omega | (simp only [List.length_drop, List.length_take, List.length_append, List.length_cons, List.length_nil, List.length_singleton]; omega) | (simp only [List.length_drop, List.length_take, List.length_append, List.length_cons, List.length_nil, List.length_singleton] at *; omega))⟩
       refine WS.iaVS A j hy24 rfl rfl rfl rfl ?_
       intro b24_ o24_ ha24
       refine C rfl (op_ldAt rfl (ha24.mono M15.sub) rfl) ?_
       refine WS.new M15 rfl ?_
       intro p16 h17 M18
       refine C rfl rfl ?_
       refine WS.st1 (M18.focus 0 rfl) [_, _, _, _] [_, _, _, _] rfl rfl rfl rfl rfl (D rfl) (D rfl) rfl rfl ?_
       intro h19 M20
       replace M20 : Mem _ _ ([(p16, _)] :: [(p6, _)] :: []) _ := M20
       refine G [(0, _), (3, _), (4, _), (5, _), (6, _), (7, _), (8, _), (9, _), (19, _), (20, _), (21, _)] rfl ?_
       refine WC.seq (WC.run (C rfl rfl (C rfl rfl ?_)))
       refine WS.neqN (a := i) (b := j) rfl rfl rfl (fun e28 => ?_) (fun e28 => ?_)
       ·
        refine C rfl rfl (C rfl rfl (C rfl (op_ld (M20.at 1 rfl) rfl rfl) ?_))
        generalize hb1 : y12.rd = vhb1 at *; cases vhb1
        ·
         refine WS.opV (.bool true) rfl rfl rfl (C rfl rfl (C rfl rfl (C rfl rfl (C rfl (op_ld (M20.at 0 rfl) rfl rfl) ?_))))
         generalize hb2 : y24.rd = vhb2 at *; cases vhb2
         ·
          refine WS.opV (.bool true) rfl rfl rfl (C rfl rfl (C rfl rfl (C rfl rfl (C rfl (op_ld (M20.at 1 rfl) rfl rfl) (C rfl rfl (C rfl (op_ld (M20.at 0 rfl) rfl rfl) ?_))))))
          refine WS.eqlN (a := (y12.pl).toNat) (b := (y24.pl).toNat) rfl rfl rfl (fun e44 => ?_) (fun e44 => ?_)
          ·
           refine C rfl rfl (C rfl rfl (F rfl (F rfl (F rfl (F rfl (F rfl (F rfl (F rfl (F rfl ?_)))))))))
           refine WS.offC rfl (F rfl (F rfl (C rfl rfl (G [(0, _), (3, _), (4, _), (7, _), (8, _), (9, _), (19, _), (20, _), (21, _), (58, _)] rfl ?_))))
           refine WC.condT rfl (WC.seq (WC.run (C rfl rfl (G [(2, _)] rfl ?_))))
           refine WC.ret (⟨[_], (res_tmp rfl res_nil), ?_⟩)
           refine ⟨_, rfl, ⟨fun q => (nomatch q), fun hr => ?_⟩, M20.bare.take 0⟩
           exfalso
           first
           | (have := (hr i y12 hy12).1; omega)
           | (obtain ⟨t1, t2⟩ := (hr i y12 hy12).2 j y24 hy24
              first
              | exact t1 ⟨by omega, by assumption, by assumption, by omega⟩
              | (cases y12; cases y24; dsimp only at *; simp_all; done))
          ·
           refine C rfl rfl (C rfl rfl (C rfl rfl (C rfl (op_ld (M20.at 1 rfl) rfl rfl) (C rfl rfl (C rfl (op_ld (M20.at 0 rfl) rfl rfl) ?_)))))
           refine WS.lss (a := (y12.tl).toInt) (b := (y24.ak).toInt) rfl rfl rfl (fun e51 => ?_) (fun e51 => ?_)
           ·
            refine C rfl rfl (C rfl (op_lds [_, _, _, _] (M20.at 1 rfl) rfl (D rfl) rfl) (C rfl (op_lds [_, _, _, _] (M20.at 0 rfl) rfl (D rfl) rfl) ?_))
            refine WS.call rfl rfl rfl (Ahead_ran M20.here (a := (⟨y12.ak, y12.tl, y12.pl, false⟩ : JOp)) (b := (⟨y24.ak, y24.tl, y24.pl, false⟩ : JOp))) ?_
            rintro _ h21 ⟨rfl, N22⟩
            have M23 := M20.trans N22
            generalize hb3 : (decide (kLt (⟨y12.ak, y12.tl, y12.pl, false⟩ : JOp) (⟨y24.ak, y24.tl, y24.pl, false⟩ : JOp))) = vhb3 at *; cases vhb3
            ·
             refine WS.opV (.bool true) rfl rfl rfl (C rfl rfl (C rfl rfl (G [(0, _), (3, _), (4, _), (7, _), (8, _), (9, _), (19, _), (20, _), (21, _), (58, _)] rfl ?_)))
             refine WC.condT rfl (WC.seq (WC.run (C rfl rfl (G [(2, _)] rfl ?_))))
             refine WC.ret (⟨[_], (res_tmp rfl res_nil), ?_⟩)
             refine ⟨_, rfl, ⟨fun q => (nomatch q), fun hr => ?_⟩, M23.bare.take 0⟩
             exfalso
             first
             | (have := (hr i y12 hy12).1; omega)
             | (obtain ⟨t1, t2⟩ := (hr i y12 hy12).2 j y24 hy24
                first
                | exact t1 ⟨by omega, by assumption, by assumption, by omega⟩
                | (cases y12; cases y24; dsimp only at *; simp_all; done))
            ·
             refine WS.opV (.bool false) rfl rfl rfl (C rfl rfl (C rfl rfl (G [(0, _), (3, _), (4, _), (7, _), (8, _), (9, _), (19, _), (20, _), (21, _), (58, _)] rfl ?_)))
             refine WC.condF rfl (WC.skip (WC.run (WS.opV (.int .i64 (((j + 1) : Nat) : Int)) rfl rfl (add_i64 (a := j) (b := 1) (by omega)) (C rfl rfl (G [(0, _), (3, _), (4, _), (7, _), (8, _), (9, _), (19, _), (20, _), (21, _)] rfl ?_)))))
             refine ⟨j + 1, rfl, ⟨((M23.bare.focus 1 rfl).take 1), ?_⟩, ?_⟩
             · exact ⟨by omega, fun k b q hb => by by_cases c : k = j; (subst c; rw [hy24] at hb; cases hb; exact ⟨fun ⟨p1, p2, p3, p4⟩ => by first | omega | (simp_all; done), fun ⟨p1, p2⟩ => by first | omega | (cases y12; cases y24; dsimp only at *; simp_all; done)⟩); exact hJ k b (by omega) hb⟩
             · simp only []; omega
           ·
            refine C rfl rfl (F rfl (F rfl (WS.offC rfl (F rfl (C rfl rfl (C rfl rfl (G [(0, _), (3, _), (4, _), (7, _), (8, _), (9, _), (19, _), (20, _), (21, _), (58, _)] rfl ?_)))))))
            refine WC.condF rfl (WC.skip (WC.run (WS.opV (.int .i64 (((j + 1) : Nat) : Int)) rfl rfl (add_i64 (a := j) (b := 1) (by omega)) (C rfl rfl (G [(0, _), (3, _), (4, _), (7, _), (8, _), (9, _), (19, _), (20, _), (21, _)] rfl ?_)))))
            refine ⟨j + 1, rfl, ⟨((M20.bare.focus 1 rfl).take 1), ?_⟩, ?_⟩
            · exact ⟨by omega, fun k b q hb => by by_cases c : k = j; (subst c; rw [hy24] at hb; cases hb; exact ⟨fun ⟨p1, p2, p3, p4⟩ => by first | omega | (simp_all; done), fun ⟨p1, p2⟩ => by first | omega | (cases y12; cases y24; dsimp only at *; simp_all; done)⟩); exact hJ k b (by omega) hb⟩
            · simp only []; omega
         ·
          refine WS.opV (.bool false) rfl rfl rfl (C rfl rfl (C rfl rfl (F rfl (F rfl (F rfl (F rfl (F rfl (C rfl rfl (C rfl rfl ?_)))))))))
          refine C rfl rfl (C rfl (op_ld (M20.at 1 rfl) rfl rfl) (C rfl rfl (C rfl (op_ld (M20.at 0 rfl) rfl rfl) ?_)))
          refine WS.lss (a := (y12.tl).toInt) (b := (y24.ak).toInt) rfl rfl rfl (fun e51 => ?_) (fun e51 => ?_)
          ·
           refine C rfl rfl (C rfl (op_lds [_, _, _, _] (M20.at 1 rfl) rfl (D rfl) rfl) (C rfl (op_lds [_, _, _, _] (M20.at 0 rfl) rfl (D rfl) rfl) ?_))
           refine WS.call rfl rfl rfl (Ahead_ran M20.here (a := (⟨y12.ak, y12.tl, y12.pl, false⟩ : JOp)) (b := (⟨y24.ak, y24.tl, y24.pl, true⟩ : JOp))) ?_
           rintro _ h24 ⟨rfl, N25⟩
           have M26 := M20.trans N25
           generalize hb4 : (decide (kLt (⟨y12.ak, y12.tl, y12.pl, false⟩ : JOp) (⟨y24.ak, y24.tl, y24.pl, true⟩ : JOp))) = vhb4 at *; cases vhb4
           ·
            refine WS.opV (.bool true) rfl rfl rfl (C rfl rfl (C rfl rfl (G [(0, _), (3, _), (4, _), (7, _), (8, _), (9, _), (19, _), (20, _), (21, _), (58, _)] rfl ?_)))
            refine WC.condT rfl (WC.seq (WC.run (C rfl rfl (G [(2, _)] rfl ?_))))
            refine WC.ret (⟨[_], (res_tmp rfl res_nil), ?_⟩)
            refine ⟨_, rfl, ⟨fun q => (nomatch q), fun hr => ?_⟩, M26.bare.take 0⟩
            exfalso
            first
            | (have := (hr i y12 hy12).1; omega)
            | (obtain ⟨t1, t2⟩ := (hr i y12 hy12).2 j y24 hy24
               first
               | exact t1 ⟨by omega, by assumption, by assumption, by omega⟩
               | (cases y12; cases y24; dsimp only at *; simp_all; done))
           ·
            refine WS.opV (.bool false) rfl rfl rfl (C rfl rfl (C rfl rfl (G [(0, _), (3, _), (4, _), (7, _), (8, _), (9, _), (19, _), (20, _), (21, _), (58, _)] rfl ?_)))
            refine WC.condF rfl (WC.skip (WC.run (WS.opV (.int .i64 (((j + 1) : Nat) : Int)) rfl rfl (add_i64 (a := j) (b := 1) (by omega)) (C rfl rfl (G [(0, _), (3, _), (4, _), (7, _), (8, _), (9, _), (19, _), (20, _), (21, _)] rfl ?_)))))
            refine ⟨j + 1, rfl, ⟨((M26.bare.focus 1 rfl).take 1), ?_⟩, ?_⟩
            · exact ⟨by omega, fun k b q hb => by by_cases c : k = j; (subst c; rw [hy24] at hb; cases hb; exact ⟨fun ⟨p1, p2, p3, p4⟩ => by first | omega | (simp_all; done), fun ⟨p1, p2⟩ => by first | omega | (cases y12; cases y24; dsimp only at *; simp_all; done)⟩); exact hJ k b (by omega) hb⟩
            · simp only []; omega
          ·
           refine C rfl rfl (F rfl (F rfl (WS.offC rfl (F rfl (C rfl rfl (C rfl rfl (G [(0, _), (3, _), (4, _), (7, _), (8, _), (9, _), (19, _), (20, _), (21, _), (58, _)] rfl ?_)))))))
           refine WC.condF rfl (WC.skip (WC.run (WS.opV (.int .i64 (((j + 1) : Nat) : Int)) rfl rfl (add_i64 (a := j) (b := 1) (by omega)) (C rfl rfl (G [(0, _), (3, _), (4, _), (7, _), (8, _), (9, _), (19, _), (20, _), (21, _)] rfl ?_)))))
           refine ⟨j + 1, rfl, ⟨((M20.bare.focus 1 rfl).take 1), ?_⟩, ?_⟩
           · exact ⟨by omega, fun k b q hb => by by_cases c : k = j; (subst c; rw [hy24] at hb; cases hb; exact ⟨fun ⟨p1, p2, p3, p4⟩ => by first | omega | (simp_all; done), fun ⟨p1, p2⟩ => by first | omega | (cases y12; cases y24; dsimp only at *; simp_all; done)⟩); exact hJ k b (by omega) hb⟩
           · simp only []; omega
        ·
         refine WS.opV (.bool false) rfl rfl rfl (C rfl rfl (C rfl rfl (F rfl (F rfl (F rfl (C rfl rfl (C rfl rfl (F rfl (F rfl ?_)))))))))
         refine F rfl (F rfl (F rfl (C rfl rfl (C rfl rfl (C rfl rfl (C rfl (op_ld (M20.at 1 rfl) rfl rfl) (C rfl rfl (C rfl (op_ld (M20.at 0 rfl) rfl rfl) ?_))))))))
         refine WS.lss (a := (y12.tl).toInt) (b := (y24.ak).toInt) rfl rfl rfl (fun e51 => ?_) (fun e51 => ?_)
         ·
          refine C rfl rfl (C rfl (op_lds [_, _, _, _] (M20.at 1 rfl) rfl (D rfl) rfl) (C rfl (op_lds [_, _, _, _] (M20.at 0 rfl) rfl (D rfl) rfl) ?_))
          refine WS.call rfl rfl rfl (Ahead_ran M20.here (a := (⟨y12.ak, y12.tl, y12.pl, true⟩ : JOp)) (b := y24)) ?_
          rintro _ h27 ⟨rfl, N28⟩
          have M29 := M20.trans N28
          generalize hb5 : (decide (kLt (⟨y12.ak, y12.tl, y12.pl, true⟩ : JOp) y24)) = vhb5 at *; cases vhb5
          ·
           refine WS.opV (.bool true) rfl rfl rfl (C rfl rfl (C rfl rfl (G [(0, _), (3, _), (4, _), (7, _), (8, _), (9, _), (19, _), (20, _), (21, _), (58, _)] rfl ?_)))
           refine WC.condT rfl (WC.seq (WC.run (C rfl rfl (G [(2, _)] rfl ?_))))
           refine WC.ret (⟨[_], (res_tmp rfl res_nil), ?_⟩)
           refine ⟨_, rfl, ⟨fun q => (nomatch q), fun hr => ?_⟩, M29.bare.take 0⟩
           exfalso
           first
           | (have := (hr i y12 hy12).1; omega)
           | (obtain ⟨t1, t2⟩ := (hr i y12 hy12).2 j y24 hy24
              first
              | exact t1 ⟨by omega, by assumption, by assumption, by omega⟩
              | (cases y12; cases y24; dsimp only at *; simp_all; done))
          ·
           refine WS.opV (.bool false) rfl rfl rfl (C rfl rfl (C rfl rfl (G [(0, _), (3, _), (4, _), (7, _), (8, _), (9, _), (19, _), (20, _), (21, _), (58, _)] rfl ?_)))
           refine WC.condF rfl (WC.skip (WC.run (WS.opV (.int .i64 (((j + 1) : Nat) : Int)) rfl rfl (add_i64 (a := j) (b := 1) (by omega)) (C rfl rfl (G [(0, _), (3, _), (4, _), (7, _), (8, _), (9, _), (19, _), (20, _), (21, _)] rfl ?_)))))
           refine ⟨j + 1, rfl, ⟨((M29.bare.focus 1 rfl).take 1), ?_⟩, ?_⟩
           · exact ⟨by omega, fun k b q hb => by by_cases c : k = j; (subst c; rw [hy24] at hb; cases hb; exact ⟨fun ⟨p1, p2, p3, p4⟩ => by first | omega | (simp_all; done), fun ⟨p1, p2⟩ => by first | omega | (cases y12; cases y24; dsimp only at *; simp_all; done)⟩); exact hJ k b (by omega) hb⟩
           · simp only []; omega
         ·
          refine C rfl rfl (F rfl (F rfl (WS.offC rfl (F rfl (C rfl rfl (C rfl rfl (G [(0, _), (3, _), (4, _), (7, _), (8, _), (9, _), (19, _), (20, _), (21, _), (58, _)] rfl ?_)))))))
          refine WC.condF rfl (WC.skip (WC.run (WS.opV (.int .i64 (((j + 1) : Nat) : Int)) rfl rfl (add_i64 (a := j) (b := 1) (by omega)) (C rfl rfl (G [(0, _), (3, _), (4, _), (7, _), (8, _), (9, _), (19, _), (20, _), (21, _)] rfl ?_)))))
          refine ⟨j + 1, rfl, ⟨((M20.bare.focus 1 rfl).take 1), ?_⟩, ?_⟩
          · exact ⟨by omega, fun k b q hb => by by_cases c : k = j; (subst c; rw [hy24] at hb; cases hb; exact ⟨fun ⟨p1, p2, p3, p4⟩ => by first | omega | (simp_all; done), fun ⟨p1, p2⟩ => by first | omega | (cases y12; cases y24; dsimp only at *; simp_all; done)⟩); exact hJ k b (by omega) hb⟩
          · simp only []; omega
       ·
        refine C rfl rfl (F rfl (F rfl (F rfl (C rfl rfl (C rfl rfl (F rfl (F rfl (F rfl (C rfl rfl ?_)))))))))
        refine C rfl rfl (F rfl (F rfl (F rfl (F rfl (F rfl (C rfl rfl (C rfl rfl (C rfl rfl (C rfl (op_ld (M20.at 1 rfl) rfl rfl) ?_)))))))))
        refine C rfl rfl (C rfl (op_ld (M20.at 0 rfl) rfl rfl) ?_)
        refine WS.lss (a := (y12.tl).toInt) (b := (y24.ak).toInt) rfl rfl rfl (fun e51 => ?_) (fun e51 => ?_)
        ·
         refine C rfl rfl (C rfl (op_lds [_, _, _, _] (M20.at 1 rfl) rfl (D rfl) rfl) (C rfl (op_lds [_, _, _, _] (M20.at 0 rfl) rfl (D rfl) rfl) ?_))
         refine WS.call rfl rfl rfl (Ahead_ran M20.here (a := y12) (b := y24)) ?_
         rintro _ h30 ⟨rfl, N31⟩
         have M32 := M20.trans N31
         generalize hb6 : (decide (kLt y12 y24)) = vhb6 at *; cases vhb6
         ·
          refine WS.opV (.bool true) rfl rfl rfl (C rfl rfl (C rfl rfl (G [(0, _), (3, _), (4, _), (7, _), (8, _), (9, _), (19, _), (20, _), (21, _), (58, _)] rfl ?_)))
          refine WC.condT rfl (WC.seq (WC.run (C rfl rfl (G [(2, _)] rfl ?_))))
          refine WC.ret (⟨[_], (res_tmp rfl res_nil), ?_⟩)
          refine ⟨_, rfl, ⟨fun q => (nomatch q), fun hr => ?_⟩, M32.bare.take 0⟩
          exfalso
          first
          | (have := (hr i y12 hy12).1; omega)
          | (obtain ⟨t1, t2⟩ := (hr i y12 hy12).2 j y24 hy24
             first
             | exact t1 ⟨by omega, by assumption, by assumption, by omega⟩
             | (cases y12; cases y24; dsimp only at *; simp_all; done))
         ·
          refine WS.opV (.bool false) rfl rfl rfl (C rfl rfl (C rfl rfl (G [(0, _), (3, _), (4, _), (7, _), (8, _), (9, _), (19, _), (20, _), (21, _), (58, _)] rfl ?_)))
          refine WC.condF rfl (WC.skip (WC.run (WS.opV (.int .i64 (((j + 1) : Nat) : Int)) rfl rfl (add_i64 (a := j) (b := 1) (by omega)) (C rfl rfl (G [(0, _), (3, _), (4, _), (7, _), (8, _), (9, _), (19, _), (20, _), (21, _)] rfl ?_)))))
          refine ⟨j + 1, rfl, ⟨((M32.bare.focus 1 rfl).take 1), ?_⟩, ?_⟩
          · exact ⟨by omega, fun k b q hb => by by_cases c : k = j; (subst c; rw [hy24] at hb; cases hb; exact ⟨fun ⟨p1, p2, p3, p4⟩ => by first | omega | (simp_all; done), fun ⟨p1, p2⟩ => by first | omega | (cases y12; cases y24; dsimp only at *; simp_all; done)⟩); exact hJ k b (by omega) hb⟩
          · simp only []; omega
        ·
         refine C rfl rfl (F rfl (F rfl (WS.offC rfl (F rfl (C rfl rfl (C rfl rfl (G [(0, _), (3, _), (4, _), (7, _), (8, _), (9, _), (19, _), (20, _), (21, _), (58, _)] rfl ?_)))))))
         refine WC.condF rfl (WC.skip (WC.run (WS.opV (.int .i64 (((j + 1) : Nat) : Int)) rfl rfl (add_i64 (a := j) (b := 1) (by omega)) (C rfl rfl (G [(0, _), (3, _), (4, _), (7, _), (8, _), (9, _), (19, _), (20, _), (21, _)] rfl ?_)))))
         refine ⟨j + 1, rfl, ⟨((M20.bare.focus 1 rfl).take 1), ?_⟩, ?_⟩
         · exact ⟨by omega, fun k b q hb => by by_cases c : k = j; (subst c; rw [hy24] at hb; cases hb; exact ⟨fun ⟨p1, p2, p3, p4⟩ => by first | omega | (simp_all; done), fun ⟨p1, p2⟩ => by first | omega | (cases y12; cases y24; dsimp only at *; simp_all; done)⟩); exact hJ k b (by omega) hb⟩
         · simp only []; omega
      ·
       refine G [(0, _), (3, _), (4, _), (7, _), (8, _), (9, _), (19, _), (20, _), (21, _), (22, _)] rfl ?_
       refine WC.seq (WC.condF rfl (WC.exit ?_))
       refine WC.run (WS.opV (.int .i64 (((i + 1) : Nat) : Int)) rfl rfl (add_i64 (a := i) (b := 1) (by omega)) (C rfl rfl (G [(0, _), (7, _), (8, _), (9, _)] rfl ?_)))
       refine ⟨i + 1, rfl, ⟨(M15.bare.take 0), ?_⟩, ?_⟩
       · exact ⟨by omega, fun k a q ha => by by_cases c : k = i; (subst c; rw [hy12] at ha; cases ha; exact ⟨by omega, fun j2 b hb => hJ j2 b (by have := (List.getElem?_eq_some_iff.1 hb).1; omega) hb⟩); exact hI k a (by omega) ha⟩
       · simp only []; omega
   ·
    refine G [(0, _), (7, _), (8, _), (9, _), (10, _)] rfl ?_
    refine WC.seq (WC.condF rfl (WC.exit ?_))
    refine WC.seq (WC.run (C rfl rfl (G [(2, _)] rfl ?_)))
    refine WC.ret (⟨[_], (res_tmp rfl res_nil), ?_⟩)
    exact ⟨_, rfl, ⟨fun _ => fun k a ha => hI k a (by have := (List.getElem?_eq_some_iff.1 ha).1; omega) ha, fun _ => rfl⟩, M5.bare.take 0⟩
end Go.Proofs.Ytfcpokolbifilaa.Wt
namespace Go.Proofs.Ytfcpokolbifilaa.Wt
open Go Go.Proofs.Ytfcpokolbifilaa.Am Go.Proofs.Ytfcpokolbifilaa.IrAll
open Go.Proofs.Ytfcpokolbifilaa.Am.WS renaming op → C
open Go.Proofs.Ytfcpokolbifilaa.Am.WS renaming off → D
open Go.Proofs.Ytfcpokolbifilaa.Am.WS renaming nil → F
set_option linter.unusedVariables false
set_option linter.unusedSimpArgs false
variable {h base : H} {L : List Seg} {R : List Nat}
def TwoR (i k : Nat) (a b : JOp) : Prop := ¬ (k < i ∧ a.pl.toNat = b.pl.toNat ∧ a.rd = false ∧ b.rd = false) ∧ ¬ (a.tl.toInt < b.ak.toInt ∧ ¬ kLt a b)
def RightR (l : List JOp) : Prop := ∀ i a, l[i]? = some a → a.ak.toInt ≤ a.tl.toInt ∧ ∀ j b, l[j]? = some b → TwoR i j a b
theorem rightR_iff {l : List JOp} : RightR l ↔ RightL l := by
  constructor
  · intro r i a ha
    refine ⟨(r i a ha).1, fun j b hb => ⟨fun ⟨p1, p2, p3, p4⟩ => ?_, ((r i a ha).2 j b hb).2⟩⟩
    rcases Nat.lt_or_gt_of_ne p1 with q | q
    · exact ((r j b hb).2 i a ha).1 ⟨q, p4.symm, p3, p2⟩
    · exact ((r i a ha).2 j b hb).1 ⟨q, p4, p2, p3⟩
  · intro r i a ha
    exact ⟨(r i a ha).1, fun j b hb => ⟨fun ⟨p1, p2, p3, p4⟩ => ((r i a ha).2 j b hb).1 ⟨by omega, p3, p4, p2⟩, ((r i a ha).2 j b hb).2⟩⟩
theorem refRight_ran (W : Mem h h [] []) {V : Value} {l : List JOp} (A : KJOp.Sl h V l) (hl : l.length ≤ 60) : Cll tab0 12 [V] h (fun v h2 => ∃ g, v = .bool g ∧ (g = true ↔ RightL l) ∧ Mem h h2 [] []) := by
  rw [← rightR_iff]
  obtain ⟨Pl, nl, rfl⟩ := A.shape
  refine Cll.code rfl rfl ?_
  refine WC.env [(0, _)] rfl ?_
  refine WC.seq (WC.run (C rfl rfl (F [(0, _)] rfl ?_)))
  refine WC.seq (WC.seq (WC.run (C rfl rfl (F [(0, _), (3, _)] rfl ?_))))
  refine WC.block ?_
  obtain ⟨L1, eL3, M2⟩ := Mem.name W.bare
  refine WC.loop (σ := Nat) (fun (i) => [(0, (.slice Pl l.length nl)), (3, (.int .i64 ((i : Nat) : Int)))]) (fun (i) hh => Mem h hh (L1) [] ∧ i ≤ l.length ∧ ∀ k a, k < i → l[k]? = some a → a.ak.toInt ≤ a.tl.toInt ∧ ∀ j b, l[j]? = some b → TwoR k j a b) (fun (i) => l.length - i) (0) rfl ⟨M2, ?_⟩ ?_
  · exact ⟨by omega, fun k a q => by omega⟩
  ·rintro i h4 ⟨M5, ⟨hi, hI⟩⟩
   replace eL3 := eL3.symm; subst eL3
   refine WC.env [(0, _), (3, _)] rfl ?_
   refine WC.seq (WC.seq (WC.run (C rfl rfl (C rfl rfl (C rfl (op_lenVS A rfl) ?_)))))
   refine WS.lssN (a := i) (b := (l).length) rfl rfl rfl (fun e8 => ?_) (fun e8 => ?_)
   ·
    refine F [(0, _), (3, _), (8, _)] rfl ?_
    refine WC.condT rfl (WC.skip (WC.seq (WC.block (WC.seq (WC.seq (WC.draw M5 [] rfl ?_))))))
    intro rb6 h7 M8
    refine C rfl rfl (C rfl rfl ?_)
    obtain ⟨y13, hy13⟩ : ∃ y, (l)[i]? = some y := ⟨_, List.getElem?_eq_getElem (show i < (l).length by first | omega | (simp only [List.length_drop, List.length_take, List.length_append, List.length_cons, List.length_nil, List.length_singleton]; omega) | (simp only [List.length_drop, List.length_take, List.length_append, List.length_cons, List.length_nil, List.length_singleton] at *; omega))⟩
    refine WS.iaVS A i hy13 rfl rfl rfl rfl ?_
    intro b13_ o13_ ha13
    refine C rfl rfl (C rfl (op_ldH rfl (At.ld (ha13.mono M8.sub) rfl)) (C rfl rfl (C rfl rfl ?_)))
    refine WS.iaVS A i hy13 rfl rfl rfl rfl ?_
    intro b18_ o18_ ha18
    refine C rfl rfl (C rfl (op_ldH rfl (At.ld0 (ha18.mono M8.sub) rfl)) ?_)
    refine WS.lss (a := (y13.tl).toInt) (b := (y13.ak).toInt) rfl rfl rfl (fun e21 => ?_) (fun e21 => ?_)
    ·
     refine F [(0, _), (3, _), (21, _)] rfl ?_
     refine WC.condT rfl (WC.seq (WC.run (C rfl rfl (F [(2, _)] rfl ?_))))
     refine WC.ret (⟨[_], (res_tmp rfl res_nil), ?_⟩)
     refine ⟨_, rfl, ⟨fun q => (nomatch q), fun hr => ?_⟩, M8.bare.bare.take 0⟩
     exfalso
     first
     | (have := (hr i y13 hy13).1; omega)
     | (obtain ⟨t1, t2⟩ := (hr i y13 hy13).2 j y39 hy39
        first
        | exact t1 ⟨by omega, by omega, by assumption, by assumption⟩
        | exact t2 ⟨by omega, of_decide_eq_false (by assumption)⟩)
     | (obtain ⟨t1, t2⟩ := (hr i y13 hy13).2 j y67 hy67
        exact t2 ⟨by omega, of_decide_eq_false (by assumption)⟩)
    ·
     refine F [(0, _), (3, _), (21, _)] rfl ?_
     refine WC.condF rfl (WC.skip (WC.seq (WC.run (C rfl rfl (F [(0, _), (3, _), (4, _)] rfl ?_)))))
     refine WC.block ?_
     obtain ⟨L9, eL11, M10⟩ := Mem.name M8.bare.bare
     refine WC.loop (σ := Nat) (fun (j) => [(0, (.slice Pl l.length nl)), (3, (.int .i64 ((i : Nat) : Int))), (4, (.int .i64 ((j : Nat) : Int)))]) (fun (j) hh => Mem h hh (L9) [] ∧ j ≤ l.length ∧ ∀ k b, k < j → l[k]? = some b → TwoR i k y13 b) (fun (j) => l.length - j) (0) rfl ⟨M10, ?_⟩ ?_
     · exact ⟨by omega, fun k a q => by omega⟩
     ·rintro j h12 ⟨M13, ⟨hj, hJ⟩⟩
      replace eL11 := eL11.symm; subst eL11
      refine WC.env [(0, _), (3, _), (4, _)] rfl ?_
      refine WC.seq (WC.seq (WC.run (C rfl rfl (C rfl rfl (C rfl (op_lenVS A rfl) ?_)))))
      refine WS.lssN (a := j) (b := (l).length) rfl rfl rfl (fun e25 => ?_) (fun e25 => ?_)
      ·
       refine F [(0, _), (3, _), (4, _), (25, _)] rfl ?_
       refine WC.condT rfl (WC.skip (WC.seq (WC.block (WC.seq (WC.seq (WC.draw M13 [] rfl ?_))))))
       intro rb14 h15 M16
       refine C rfl rfl (C rfl rfl ?_)
       refine WS.lssN (a := j) (b := i) rfl rfl rfl (fun e30 => ?_) (fun e30 => ?_)
       ·
        refine C rfl rfl (C rfl rfl (C rfl rfl ?_))
        refine WS.iaVS A i hy13 rfl rfl rfl rfl ?_
        intro b34_ o34_ ha34
        refine C rfl rfl (C rfl (op_ldH rfl (At.ld (ha34.mono M16.sub) rfl)) (C rfl rfl (C rfl rfl ?_)))
        obtain ⟨y39, hy39⟩ : ∃ y, (l)[j]? = some y := ⟨_, List.getElem?_eq_getElem (show j < (l).length by first | omega | (simp only [List.length_drop, List.length_take, List.length_append, List.length_cons, List.length_nil, List.length_singleton]; omega) | (simp only [List.length_drop, List.length_take, List.length_append, List.length_cons, List.length_nil, List.length_singleton] at *; omega))⟩
        refine WS.iaVS A j hy39 rfl rfl rfl rfl ?_
        intro b39_ o39_ ha39
        refine C rfl rfl (C rfl (op_ldH rfl (At.ld (ha39.mono M16.sub) rfl)) ?_)
        refine WS.eqlN (a := (y13.pl).toNat) (b := (y39.pl).toNat) rfl rfl rfl (fun e42 => ?_) (fun e42 => ?_)
        ·
         refine C rfl rfl (C rfl rfl (C rfl rfl (C rfl rfl ?_)))
         refine WS.iaVS A i hy13 rfl rfl rfl rfl ?_
         intro b47_ o47_ ha47
         refine C rfl rfl (C rfl (op_ldH rfl (At.ld (ha47.mono M16.sub) rfl)) ?_)
         generalize hb1 : y13.rd = vhb1 at *; cases vhb1
         ·
          refine WS.opV (.bool true) rfl rfl rfl (C rfl rfl (C rfl rfl (C rfl rfl (C rfl rfl ?_))))
          refine WS.iaVS A j hy39 rfl rfl rfl rfl ?_
          intro b55_ o55_ ha55
          refine C rfl rfl (C rfl (op_ldH rfl (At.ld (ha55.mono M16.sub) rfl)) ?_)
          generalize hb2 : y39.rd = vhb2 at *; cases vhb2
          ·
           refine WS.opV (.bool true) rfl rfl rfl (C rfl rfl (F [(0, _), (3, _), (4, _), (59, _)] rfl ?_))
           refine WC.condT rfl (WC.seq (WC.run (C rfl rfl (F [(2, _)] rfl ?_))))
           refine WC.ret (⟨[_], (res_tmp rfl res_nil), ?_⟩)
           refine ⟨_, rfl, ⟨fun q => (nomatch q), fun hr => ?_⟩, M16.bare.bare.take 0⟩
           exfalso
           first
           | (have := (hr i y13 hy13).1; omega)
           | (obtain ⟨t1, t2⟩ := (hr i y13 hy13).2 j y39 hy39
              first
              | exact t1 ⟨by omega, by omega, by assumption, by assumption⟩
              | exact t2 ⟨by omega, of_decide_eq_false (by assumption)⟩)
           | (obtain ⟨t1, t2⟩ := (hr i y13 hy13).2 j y67 hy67
              exact t2 ⟨by omega, of_decide_eq_false (by assumption)⟩)
          ·
           refine WS.opV (.bool false) rfl rfl rfl (C rfl rfl (F [(0, _), (3, _), (4, _), (59, _)] rfl ?_))
           refine WC.condF rfl (WC.skip (WC.seq (WC.draw M16.bare [] rfl ?_)))
           intro rb17 h18 M19
           refine C rfl rfl (C rfl rfl ?_)
           refine WS.iaVS A i hy13 rfl rfl rfl rfl ?_
           intro b62_ o62_ ha62
           refine C rfl rfl (C rfl (op_ldH rfl (At.ld (ha62.mono M19.sub) rfl)) (C rfl rfl (C rfl rfl ?_)))
           refine WS.iaVS A j hy39 rfl rfl rfl rfl ?_
           intro b67_ o67_ ha67
           refine C rfl rfl (C rfl (op_ldH rfl (At.ld0 (ha67.mono M19.sub) rfl)) ?_)
           refine WS.lss (a := (y13.tl).toInt) (b := (y39.ak).toInt) rfl rfl rfl (fun e70 => ?_) (fun e70 => ?_)
           ·
            refine C rfl rfl (C rfl rfl (C rfl rfl ?_))
            refine WS.iaVS A i hy13 rfl rfl rfl rfl ?_
            intro b74_ o74_ ha74
            refine C rfl (op_ldAt rfl (ha74.mono M19.sub) rfl) (C rfl rfl (C rfl rfl ?_))
            refine WS.iaVS A j hy39 rfl rfl rfl rfl ?_
            intro b78_ o78_ ha78
            refine C rfl (op_ldAt rfl (ha78.mono M19.sub) rfl) ?_
            refine WS.call rfl rfl rfl (refAhead_ran M19.here (a := y13) (b := y39)) ?_
            rintro _ h20 ⟨rfl, N21⟩
            have M22 := M19.trans N21
            generalize hb3 : (decide (kLt y13 y39)) = vhb3 at *; cases vhb3
            ·
             refine WS.opV (.bool true) rfl rfl rfl (C rfl rfl (F [(0, _), (3, _), (4, _), (82, _)] rfl ?_))
             refine WC.condT rfl (WC.seq (WC.run (C rfl rfl (F [(2, _)] rfl ?_))))
             refine WC.ret (⟨[_], (res_tmp rfl res_nil), ?_⟩)
             refine ⟨_, rfl, ⟨fun q => (nomatch q), fun hr => ?_⟩, M22.bare.bare.take 0⟩
             exfalso
             first
             | (have := (hr i y13 hy13).1; omega)
             | (obtain ⟨t1, t2⟩ := (hr i y13 hy13).2 j y39 hy39
                first
                | exact t1 ⟨by omega, by omega, by assumption, by assumption⟩
                | exact t2 ⟨by omega, of_decide_eq_false (by assumption)⟩)
             | (obtain ⟨t1, t2⟩ := (hr i y13 hy13).2 j y67 hy67
                exact t2 ⟨by omega, of_decide_eq_false (by assumption)⟩)
            ·
             refine WS.opV (.bool false) rfl rfl rfl (C rfl rfl (F [(0, _), (3, _), (4, _), (82, _)] rfl ?_))
             refine WC.condF rfl (WC.skip (WC.run (C rfl rfl (WS.opV (.int .i64 (((j + 1) : Nat) : Int)) rfl rfl (add_i64 (a := j) (b := 1) (by omega)) (C rfl rfl (F [(0, _), (3, _), (4, _)] rfl ?_))))))
             refine ⟨j + 1, rfl, ⟨(M22.bare.bare.take 0), ?_⟩, ?_⟩
             · exact ⟨by omega, fun k b q hb => by by_cases c : k = j; (subst c; first | (rw [hy39] at hb; cases hb; exact ⟨fun ⟨p1, p2, p3, p4⟩ => by first | omega | (simp_all; done), fun ⟨p1, p2⟩ => by first | omega | exact p2 (of_decide_eq_true (by assumption)) | (simp_all; done)⟩) | (rw [hy67] at hb; cases hb; exact ⟨fun ⟨p1, p2, p3, p4⟩ => by first | omega | (simp_all; done), fun ⟨p1, p2⟩ => by first | omega | exact p2 (of_decide_eq_true (by assumption)) | (simp_all; done)⟩)); exact hJ k b (by omega) hb⟩
             · simp only []; omega
           ·
            refine C rfl rfl (D rfl (D rfl (D rfl (D rfl (D rfl (D rfl (D rfl (D rfl (WS.offC rfl ?_)))))))))
            refine D rfl (C rfl rfl (F [(0, _), (3, _), (4, _), (82, _)] rfl ?_))
            refine WC.condF rfl (WC.skip (WC.run (C rfl rfl (WS.opV (.int .i64 (((j + 1) : Nat) : Int)) rfl rfl (add_i64 (a := j) (b := 1) (by omega)) (C rfl rfl (F [(0, _), (3, _), (4, _)] rfl ?_))))))
            refine ⟨j + 1, rfl, ⟨(M19.bare.bare.take 0), ?_⟩, ?_⟩
            · exact ⟨by omega, fun k b q hb => by by_cases c : k = j; (subst c; first | (rw [hy39] at hb; cases hb; exact ⟨fun ⟨p1, p2, p3, p4⟩ => by first | omega | (simp_all; done), fun ⟨p1, p2⟩ => by first | omega | exact p2 (of_decide_eq_true (by assumption)) | (simp_all; done)⟩) | (rw [hy67] at hb; cases hb; exact ⟨fun ⟨p1, p2, p3, p4⟩ => by first | omega | (simp_all; done), fun ⟨p1, p2⟩ => by first | omega | exact p2 (of_decide_eq_true (by assumption)) | (simp_all; done)⟩)); exact hJ k b (by omega) hb⟩
            · simp only []; omega
         ·
          refine WS.opV (.bool false) rfl rfl rfl (C rfl rfl (C rfl rfl (D rfl (D rfl (D rfl (D rfl (D rfl (D rfl (C rfl rfl ?_)))))))))
          refine F [(0, _), (3, _), (4, _), (59, _)] rfl ?_
          refine WC.condF rfl (WC.skip (WC.seq (WC.draw M16.bare [] rfl ?_)))
          intro rb23 h24 M25
          refine C rfl rfl (C rfl rfl ?_)
          refine WS.iaVS A i hy13 rfl rfl rfl rfl ?_
          intro b62_ o62_ ha62
          refine C rfl rfl (C rfl (op_ldH rfl (At.ld (ha62.mono M25.sub) rfl)) (C rfl rfl (C rfl rfl ?_)))
          refine WS.iaVS A j hy39 rfl rfl rfl rfl ?_
          intro b67_ o67_ ha67
          refine C rfl rfl (C rfl (op_ldH rfl (At.ld0 (ha67.mono M25.sub) rfl)) ?_)
          refine WS.lss (a := (y13.tl).toInt) (b := (y39.ak).toInt) rfl rfl rfl (fun e70 => ?_) (fun e70 => ?_)
          ·
           refine C rfl rfl (C rfl rfl (C rfl rfl ?_))
           refine WS.iaVS A i hy13 rfl rfl rfl rfl ?_
           intro b74_ o74_ ha74
           refine C rfl (op_ldAt rfl (ha74.mono M25.sub) rfl) (C rfl rfl (C rfl rfl ?_))
           refine WS.iaVS A j hy39 rfl rfl rfl rfl ?_
           intro b78_ o78_ ha78
           refine C rfl (op_ldAt rfl (ha78.mono M25.sub) rfl) ?_
           refine WS.call rfl rfl rfl (refAhead_ran M25.here (a := y13) (b := y39)) ?_
           rintro _ h26 ⟨rfl, N27⟩
           have M28 := M25.trans N27
           generalize hb3 : (decide (kLt y13 y39)) = vhb3 at *; cases vhb3
           ·
            refine WS.opV (.bool true) rfl rfl rfl (C rfl rfl (F [(0, _), (3, _), (4, _), (82, _)] rfl ?_))
            refine WC.condT rfl (WC.seq (WC.run (C rfl rfl (F [(2, _)] rfl ?_))))
            refine WC.ret (⟨[_], (res_tmp rfl res_nil), ?_⟩)
            refine ⟨_, rfl, ⟨fun q => (nomatch q), fun hr => ?_⟩, M28.bare.bare.take 0⟩
            exfalso
            first
            | (have := (hr i y13 hy13).1; omega)
            | (obtain ⟨t1, t2⟩ := (hr i y13 hy13).2 j y39 hy39
               first
               | exact t1 ⟨by omega, by omega, by assumption, by assumption⟩
               | exact t2 ⟨by omega, of_decide_eq_false (by assumption)⟩)
            | (obtain ⟨t1, t2⟩ := (hr i y13 hy13).2 j y67 hy67
               exact t2 ⟨by omega, of_decide_eq_false (by assumption)⟩)
           ·
            refine WS.opV (.bool false) rfl rfl rfl (C rfl rfl (F [(0, _), (3, _), (4, _), (82, _)] rfl ?_))
            refine WC.condF rfl (WC.skip (WC.run (C rfl rfl (WS.opV (.int .i64 (((j + 1) : Nat) : Int)) rfl rfl (add_i64 (a := j) (b := 1) (by omega)) (C rfl rfl (F [(0, _), (3, _), (4, _)] rfl ?_))))))
            refine ⟨j + 1, rfl, ⟨(M28.bare.bare.take 0), ?_⟩, ?_⟩
            · exact ⟨by omega, fun k b q hb => by by_cases c : k = j; (subst c; first | (rw [hy39] at hb; cases hb; exact ⟨fun ⟨p1, p2, p3, p4⟩ => by first | omega | (simp_all; done), fun ⟨p1, p2⟩ => by first | omega | exact p2 (of_decide_eq_true (by assumption)) | (simp_all; done)⟩) | (rw [hy67] at hb; cases hb; exact ⟨fun ⟨p1, p2, p3, p4⟩ => by first | omega | (simp_all; done), fun ⟨p1, p2⟩ => by first | omega | exact p2 (of_decide_eq_true (by assumption)) | (simp_all; done)⟩)); exact hJ k b (by omega) hb⟩
            · simp only []; omega
          ·
           refine C rfl rfl (D rfl (D rfl (D rfl (D rfl (D rfl (D rfl (D rfl (D rfl (WS.offC rfl ?_)))))))))
           refine D rfl (C rfl rfl (F [(0, _), (3, _), (4, _), (82, _)] rfl ?_))
           refine WC.condF rfl (WC.skip (WC.run (C rfl rfl (WS.opV (.int .i64 (((j + 1) : Nat) : Int)) rfl rfl (add_i64 (a := j) (b := 1) (by omega)) (C rfl rfl (F [(0, _), (3, _), (4, _)] rfl ?_))))))
           refine ⟨j + 1, rfl, ⟨(M25.bare.bare.take 0), ?_⟩, ?_⟩
           · exact ⟨by omega, fun k b q hb => by by_cases c : k = j; (subst c; first | (rw [hy39] at hb; cases hb; exact ⟨fun ⟨p1, p2, p3, p4⟩ => by first | omega | (simp_all; done), fun ⟨p1, p2⟩ => by first | omega | exact p2 (of_decide_eq_true (by assumption)) | (simp_all; done)⟩) | (rw [hy67] at hb; cases hb; exact ⟨fun ⟨p1, p2, p3, p4⟩ => by first | omega | (simp_all; done), fun ⟨p1, p2⟩ => by first | omega | exact p2 (of_decide_eq_true (by assumption)) | (simp_all; done)⟩)); exact hJ k b (by omega) hb⟩
           · simp only []; omega
        ·
         refine C rfl rfl (C rfl rfl (D rfl (D rfl (D rfl (D rfl (D rfl (D rfl (C rfl rfl (C rfl rfl ?_)))))))))
         refine D rfl (D rfl (D rfl (D rfl (D rfl (D rfl (C rfl rfl (F [(0, _), (3, _), (4, _), (59, _)] rfl ?_)))))))
         refine WC.condF rfl (WC.skip (WC.seq (WC.draw M16.bare [] rfl ?_)))
         intro rb29 h30 M31
         refine C rfl rfl (C rfl rfl ?_)
         refine WS.iaVS A i hy13 rfl rfl rfl rfl ?_
         intro b62_ o62_ ha62
         refine C rfl rfl (C rfl (op_ldH rfl (At.ld (ha62.mono M31.sub) rfl)) (C rfl rfl (C rfl rfl ?_)))
         refine WS.iaVS A j hy39 rfl rfl rfl rfl ?_
         intro b67_ o67_ ha67
         refine C rfl rfl (C rfl (op_ldH rfl (At.ld0 (ha67.mono M31.sub) rfl)) ?_)
         refine WS.lss (a := (y13.tl).toInt) (b := (y39.ak).toInt) rfl rfl rfl (fun e70 => ?_) (fun e70 => ?_)
         ·
          refine C rfl rfl (C rfl rfl (C rfl rfl ?_))
          refine WS.iaVS A i hy13 rfl rfl rfl rfl ?_
          intro b74_ o74_ ha74
          refine C rfl (op_ldAt rfl (ha74.mono M31.sub) rfl) (C rfl rfl (C rfl rfl ?_))
          refine WS.iaVS A j hy39 rfl rfl rfl rfl ?_
          intro b78_ o78_ ha78
          refine C rfl (op_ldAt rfl (ha78.mono M31.sub) rfl) ?_
          refine WS.call rfl rfl rfl (refAhead_ran M31.here (a := y13) (b := y39)) ?_
          rintro _ h32 ⟨rfl, N33⟩
          have M34 := M31.trans N33
          generalize hb3 : (decide (kLt y13 y39)) = vhb3 at *; cases vhb3
          ·
           refine WS.opV (.bool true) rfl rfl rfl (C rfl rfl (F [(0, _), (3, _), (4, _), (82, _)] rfl ?_))
           refine WC.condT rfl (WC.seq (WC.run (C rfl rfl (F [(2, _)] rfl ?_))))
           refine WC.ret (⟨[_], (res_tmp rfl res_nil), ?_⟩)
           refine ⟨_, rfl, ⟨fun q => (nomatch q), fun hr => ?_⟩, M34.bare.bare.take 0⟩
           exfalso
           first
           | (have := (hr i y13 hy13).1; omega)
           | (obtain ⟨t1, t2⟩ := (hr i y13 hy13).2 j y39 hy39
              first
              | exact t1 ⟨by omega, by omega, by assumption, by assumption⟩
              | exact t2 ⟨by omega, of_decide_eq_false (by assumption)⟩)
           | (obtain ⟨t1, t2⟩ := (hr i y13 hy13).2 j y67 hy67
              exact t2 ⟨by omega, of_decide_eq_false (by assumption)⟩)
          ·
           refine WS.opV (.bool false) rfl rfl rfl (C rfl rfl (F [(0, _), (3, _), (4, _), (82, _)] rfl ?_))
           refine WC.condF rfl (WC.skip (WC.run (C rfl rfl (WS.opV (.int .i64 (((j + 1) : Nat) : Int)) rfl rfl (add_i64 (a := j) (b := 1) (by omega)) (C rfl rfl (F [(0, _), (3, _), (4, _)] rfl ?_))))))
           refine ⟨j + 1, rfl, ⟨(M34.bare.bare.take 0), ?_⟩, ?_⟩
           · exact ⟨by omega, fun k b q hb => by by_cases c : k = j; (subst c; first | (rw [hy39] at hb; cases hb; exact ⟨fun ⟨p1, p2, p3, p4⟩ => by first | omega | (simp_all; done), fun ⟨p1, p2⟩ => by first | omega | exact p2 (of_decide_eq_true (by assumption)) | (simp_all; done)⟩) | (rw [hy67] at hb; cases hb; exact ⟨fun ⟨p1, p2, p3, p4⟩ => by first | omega | (simp_all; done), fun ⟨p1, p2⟩ => by first | omega | exact p2 (of_decide_eq_true (by assumption)) | (simp_all; done)⟩)); exact hJ k b (by omega) hb⟩
           · simp only []; omega
         ·
          refine C rfl rfl (D rfl (D rfl (D rfl (D rfl (D rfl (D rfl (D rfl (D rfl (WS.offC rfl ?_)))))))))
          refine D rfl (C rfl rfl (F [(0, _), (3, _), (4, _), (82, _)] rfl ?_))
          refine WC.condF rfl (WC.skip (WC.run (C rfl rfl (WS.opV (.int .i64 (((j + 1) : Nat) : Int)) rfl rfl (add_i64 (a := j) (b := 1) (by omega)) (C rfl rfl (F [(0, _), (3, _), (4, _)] rfl ?_))))))
          refine ⟨j + 1, rfl, ⟨(M31.bare.bare.take 0), ?_⟩, ?_⟩
          · exact ⟨by omega, fun k b q hb => by by_cases c : k = j; (subst c; first | (rw [hy39] at hb; cases hb; exact ⟨fun ⟨p1, p2, p3, p4⟩ => by first | omega | (simp_all; done), fun ⟨p1, p2⟩ => by first | omega | exact p2 (of_decide_eq_true (by assumption)) | (simp_all; done)⟩) | (rw [hy67] at hb; cases hb; exact ⟨fun ⟨p1, p2, p3, p4⟩ => by first | omega | (simp_all; done), fun ⟨p1, p2⟩ => by first | omega | exact p2 (of_decide_eq_true (by assumption)) | (simp_all; done)⟩)); exact hJ k b (by omega) hb⟩
          · simp only []; omega
       ·
        refine C rfl rfl (D rfl (D rfl (D rfl (D rfl (D rfl (D rfl (D rfl (D rfl (D rfl ?_)))))))))
        refine D rfl (D rfl (C rfl rfl (C rfl rfl (D rfl (D rfl (D rfl (D rfl (D rfl (D rfl ?_)))))))))
        refine C rfl rfl (C rfl rfl (D rfl (D rfl (D rfl (D rfl (D rfl (D rfl (C rfl rfl (F [(0, _), (3, _), (4, _), (59, _)] rfl ?_)))))))))
        refine WC.condF rfl (WC.skip (WC.seq (WC.draw M16.bare [] rfl ?_)))
        intro rb35 h36 M37
        refine C rfl rfl (C rfl rfl ?_)
        refine WS.iaVS A i hy13 rfl rfl rfl rfl ?_
        intro b62_ o62_ ha62
        refine C rfl rfl (C rfl (op_ldH rfl (At.ld (ha62.mono M37.sub) rfl)) (C rfl rfl (C rfl rfl ?_)))
        obtain ⟨y67, hy67⟩ : ∃ y, (l)[j]? = some y := ⟨_, List.getElem?_eq_getElem (show j < (l).length by first | omega | (simp only [List.length_drop, List.length_take, List.length_append, List.length_cons, List.length_nil, List.length_singleton]; omega) | (simp only [List.length_drop, List.length_take, List.length_append, List.length_cons, List.length_nil, List.length_singleton] at *; omega))⟩
        refine WS.iaVS A j hy67 rfl rfl rfl rfl ?_
        intro b67_ o67_ ha67
        refine C rfl rfl (C rfl (op_ldH rfl (At.ld0 (ha67.mono M37.sub) rfl)) ?_)
        refine WS.lss (a := (y13.tl).toInt) (b := (y67.ak).toInt) rfl rfl rfl (fun e70 => ?_) (fun e70 => ?_)
        ·
         refine C rfl rfl (C rfl rfl (C rfl rfl ?_))
         refine WS.iaVS A i hy13 rfl rfl rfl rfl ?_
         intro b74_ o74_ ha74
         refine C rfl (op_ldAt rfl (ha74.mono M37.sub) rfl) (C rfl rfl (C rfl rfl ?_))
         refine WS.iaVS A j hy67 rfl rfl rfl rfl ?_
         intro b78_ o78_ ha78
         refine C rfl (op_ldAt rfl (ha78.mono M37.sub) rfl) ?_
         refine WS.call rfl rfl rfl (refAhead_ran M37.here (a := y13) (b := y67)) ?_
         rintro _ h38 ⟨rfl, N39⟩
         have M40 := M37.trans N39
         generalize hb4 : (decide (kLt y13 y67)) = vhb4 at *; cases vhb4
         ·
          refine WS.opV (.bool true) rfl rfl rfl (C rfl rfl (F [(0, _), (3, _), (4, _), (82, _)] rfl ?_))
          refine WC.condT rfl (WC.seq (WC.run (C rfl rfl (F [(2, _)] rfl ?_))))
          refine WC.ret (⟨[_], (res_tmp rfl res_nil), ?_⟩)
          refine ⟨_, rfl, ⟨fun q => (nomatch q), fun hr => ?_⟩, M40.bare.bare.take 0⟩
          exfalso
          first
          | (have := (hr i y13 hy13).1; omega)
          | (obtain ⟨t1, t2⟩ := (hr i y13 hy13).2 j y39 hy39
             first
             | exact t1 ⟨by omega, by omega, by assumption, by assumption⟩
             | exact t2 ⟨by omega, of_decide_eq_false (by assumption)⟩)
          | (obtain ⟨t1, t2⟩ := (hr i y13 hy13).2 j y67 hy67
             exact t2 ⟨by omega, of_decide_eq_false (by assumption)⟩)
         ·
          refine WS.opV (.bool false) rfl rfl rfl (C rfl rfl (F [(0, _), (3, _), (4, _), (82, _)] rfl ?_))
          refine WC.condF rfl (WC.skip (WC.run (C rfl rfl (WS.opV (.int .i64 (((j + 1) : Nat) : Int)) rfl rfl (add_i64 (a := j) (b := 1) (by omega)) (C rfl rfl (F [(0, _), (3, _), (4, _)] rfl ?_))))))
          refine ⟨j + 1, rfl, ⟨(M40.bare.bare.take 0), ?_⟩, ?_⟩
          · exact ⟨by omega, fun k b q hb => by by_cases c : k = j; (subst c; first | (rw [hy39] at hb; cases hb; exact ⟨fun ⟨p1, p2, p3, p4⟩ => by first | omega | (simp_all; done), fun ⟨p1, p2⟩ => by first | omega | exact p2 (of_decide_eq_true (by assumption)) | (simp_all; done)⟩) | (rw [hy67] at hb; cases hb; exact ⟨fun ⟨p1, p2, p3, p4⟩ => by first | omega | (simp_all; done), fun ⟨p1, p2⟩ => by first | omega | exact p2 (of_decide_eq_true (by assumption)) | (simp_all; done)⟩)); exact hJ k b (by omega) hb⟩
          · simp only []; omega
        ·
         refine C rfl rfl (D rfl (D rfl (D rfl (D rfl (D rfl (D rfl (D rfl (D rfl (WS.offC rfl ?_)))))))))
         refine D rfl (C rfl rfl (F [(0, _), (3, _), (4, _), (82, _)] rfl ?_))
         refine WC.condF rfl (WC.skip (WC.run (C rfl rfl (WS.opV (.int .i64 (((j + 1) : Nat) : Int)) rfl rfl (add_i64 (a := j) (b := 1) (by omega)) (C rfl rfl (F [(0, _), (3, _), (4, _)] rfl ?_))))))
         refine ⟨j + 1, rfl, ⟨(M37.bare.bare.take 0), ?_⟩, ?_⟩
         · exact ⟨by omega, fun k b q hb => by by_cases c : k = j; (subst c; first | (rw [hy39] at hb; cases hb; exact ⟨fun ⟨p1, p2, p3, p4⟩ => by first | omega | (simp_all; done), fun ⟨p1, p2⟩ => by first | omega | exact p2 (of_decide_eq_true (by assumption)) | (simp_all; done)⟩) | (rw [hy67] at hb; cases hb; exact ⟨fun ⟨p1, p2, p3, p4⟩ => by first | omega | (simp_all; done), fun ⟨p1, p2⟩ => by first | omega | exact p2 (of_decide_eq_true (by assumption)) | (simp_all; done)⟩)); exact hJ k b (by omega) hb⟩
         · simp only []; omega
      ·
       refine F [(0, _), (3, _), (4, _), (25, _)] rfl ?_
       refine WC.condF rfl (WC.exit ?_)
       refine WC.run (C rfl rfl (WS.opV (.int .i64 (((i + 1) : Nat) : Int)) rfl rfl (add_i64 (a := i) (b := 1) (by omega)) (C rfl rfl (F [(0, _), (3, _)] rfl ?_))))
       refine ⟨i + 1, rfl, ⟨(M13.bare.take 0), ?_⟩, ?_⟩
       · exact ⟨by omega, fun k a q ha => by by_cases c : k = i; (subst c; rw [hy13] at ha; cases ha; exact ⟨by omega, fun j2 b hb => hJ j2 b (by have := (List.getElem?_eq_some_iff.1 hb).1; omega) hb⟩); exact hI k a (by omega) ha⟩
       · simp only []; omega
   ·
    refine F [(0, _), (3, _), (8, _)] rfl ?_
    refine WC.condF rfl (WC.exit ?_)
    refine WC.seq (WC.run (C rfl rfl (F [(2, _)] rfl ?_)))
    refine WC.ret (⟨[_], (res_tmp rfl res_nil), ?_⟩)
    exact ⟨_, rfl, ⟨fun _ => fun k a ha => hI k a (by have := (List.getElem?_eq_some_iff.1 ha).1; omega) ha, fun _ => rfl⟩, M5.bare.take 0⟩
end Go.Proofs.Ytfcpokolbifilaa.Wt
namespace Go.Proofs.Ytfcpokolbifilaa.Wt
open Go Go.Proofs.Ytfcpokolbifilaa.Am
set_option linter.unusedVariables false
set_option linter.unusedSimpArgs false
def Bef (l : List JOp) (x y : Nat) : Prop := cmL l x y ∨ (¬ cmL l y x ∧ x < y)
theorem bef_asym (l : List JOp) {x y : Nat} (h : Bef l x y) : ¬ Bef l y x := by
  have w := cmL_sw l
  rintro (q | ⟨q1, q2⟩)
  · rcases h with h | ⟨h1, h2⟩
    · exact w.asym h q
    · exact h1 q
  · rcases h with h | ⟨h1, h2⟩
    · exact q1 h
    · omega
theorem perm_uniq {r : Nat → Nat → Prop} (asym : ∀ a b, r a b → ¬ r b a) : ∀ {l m : List Nat}, l.Perm m → l.Pairwise r → m.Pairwise r → l = m := by
  intro l
  induction l with
  | nil => intro m p _ _; exact (List.nil_perm.1 p).symm ▸ rfl
  | cons a l ih =>
    intro m p hl hm
    cases m with
    | nil => exact absurd (List.perm_nil.1 p) (by simp)
    | cons b m =>
      have hl2 := List.pairwise_cons.1 hl
      have hm2 := List.pairwise_cons.1 hm
      by_cases c : a = b
      · subst c
        rw [ih ((List.perm_cons a).1 p) hl2.2 hm2.2]
      · have h1 : a ∈ m := by
          have := p.mem_iff.1 (List.mem_cons_self (a := a) (l := l))
          rcases List.mem_cons.1 this with q | q
          · exact absurd q c
          · exact q
        have h2 : b ∈ l := by
          have := p.mem_iff.2 (List.mem_cons_self (a := b) (l := m))
          rcases List.mem_cons.1 this with q | q
          · exact absurd q.symm c
          · exact q
        exact absurd (hm2.1 a h1) (asym a b (hl2.1 b h2))
theorem srt_bef {l : List JOp} {e : List Nat} (hs : Srt (cmL l) 0 e.length e) (ha : Alike (cmL l) e) : e.Pairwise (Bef l) := by
  have h1 : e.Pairwise (Le (cmL l)) := by
    have := srt_iff (cm := cmL l) (P := []) (S := e) (Q := [])
    simp only [List.length_nil, Nat.zero_add, List.nil_append, List.append_nil] at this
    exact this.1 hs
  unfold Alike at ha
  refine List.Pairwise.imp₂ (R := Le (cmL l)) (S := fun x y => ¬ cmL l x y → ¬ cmL l y x → x < y) ?_ h1 ha
  intro x y q1 q2
  by_cases c : cmL l x y
  · exact .inl c
  · exact .inr ⟨q1, q2 c q1⟩
end Go.Proofs.Ytfcpokolbifilaa.Wt
namespace Go.Proofs.Ytfcpokolbifilaa.Wt
open Go Go.Proofs.Ytfcpokolbifilaa.Am Go.Proofs.Ytfcpokolbifilaa.IrAll
open Go.Proofs.Ytfcpokolbifilaa.Am.WS renaming op → C
set_option linter.unusedVariables false
set_option linter.unusedSimpArgs false
variable {h base : H} {L : List Seg} {R : List Nat}
theorem bef_tr (l : List JOp) {x y z : Nat} (h : Bef l x y) (k : Bef l y z) : Bef l x z := by
  have w := cmL_sw l
  rcases h with h | ⟨h1, h2⟩
  · rcases k with k | ⟨k1, k2⟩
    · exact .inl (w.tr _ _ _ h k)
    · exact .inl (w.lt_le h k1)
  · rcases k with k | ⟨k1, k2⟩
    · exact .inl (w.le_lt h1 k)
    · exact .inr ⟨fun q => w.neg z y x k1 h1 q, by omega⟩
theorem nodup_sub_len : ∀ {a b : List Nat}, a.Nodup → (∀ x ∈ a, x ∈ b) → a.length ≤ b.length := by
  intro a
  induction a with
  | nil => intro b _ _; simp
  | cons x a ih =>
    intro b hn hs
    have hn2 := List.nodup_cons.1 hn
    have hx := hs x (List.mem_cons_self ..)
    have h1 := ih (b := b.erase x) hn2.2 (fun y hy => (List.mem_erase_of_ne (fun q => hn2.1 (by rw [← q]; exact hy))).2 (hs y (List.mem_cons_of_mem _ hy)))
    have h2 := List.length_erase_of_mem hx
    have h3 : 0 < b.length := List.length_pos_of_mem hx
    simp only [List.length_cons]; omega
theorem perm_range {e : List Nat} {n : Nat} (hn : e.Nodup) (hs : ∀ x ∈ e, x < n) (hl : n ≤ e.length) : e.Perm (List.range n) := by
  have hall : ∀ j, j < n → j ∈ e := by
    intro j hj
    apply Classical.byContradiction
    intro q
    have := nodup_sub_len (a := j :: e) (b := List.range n) (List.nodup_cons.2 ⟨q, hn⟩) (fun x hx => by
      rcases List.mem_cons.1 hx with rfl | hx
      · exact List.mem_range.2 hj
      · exact List.mem_range.2 (hs x hx))
    simp at this; omega
  rw [List.perm_iff_count]
  intro a
  by_cases q : a < n
  · have h1 := List.nodup_iff_count.1 hn a
    have h2 := List.count_pos_iff.2 (hall a q)
    have h3 := List.nodup_iff_count.1 (List.nodup_range (n := n)) a
    have h4 := List.count_pos_iff.2 (List.mem_range.2 q)
    omega
  · rw [List.count_eq_zero.2 (fun m => q (hs a m)), List.count_eq_zero.2 (fun m => q (List.mem_range.1 m))]
def BestI (l : List JOp) (e : List Nat) (i : Nat) (z : Int) : Prop := (z = -1 ∧ ∀ j, j < i → j ∈ e) ∨ ∃ b : Nat, z = (b : Int) ∧ b < i ∧ b ∉ e ∧ ∀ j, j < i → j ∉ e → j = b ∨ Bef l b j
theorem best_zero (l : List JOp) (e : List Nat) : BestI l e 0 (-1) := .inl ⟨rfl, fun j hj => by omega⟩
theorem best_skip {l : List JOp} {e : List Nat} {i : Nat} {z : Int} (hi : i ∈ e) (h : BestI l e i z) : BestI l e (i + 1) z := by
  rcases h with ⟨h1, h2⟩ | ⟨b, h1, h2, h3, h4⟩
  · exact .inl ⟨h1, fun j hj => by by_cases q : j = i; (subst q; exact hi); exact h2 j (by omega)⟩
  · exact .inr ⟨b, h1, by omega, h3, fun j hj hn => by by_cases q : j = i; (subst q; exact absurd hi hn); exact h4 j (by omega) hn⟩
theorem best_first {l : List JOp} {e : List Nat} {i : Nat} {z : Int} (hz : z < 0) (hi : i ∉ e) (h : BestI l e i z) : BestI l e (i + 1) (i : Int) := by
  rcases h with ⟨h1, h2⟩ | ⟨b, h1, h2, h3, h4⟩
  · exact .inr ⟨i, rfl, by omega, hi, fun j hj hn => by by_cases q : j = i; (exact .inl q); exact absurd (h2 j (by omega)) hn⟩
  · omega
theorem best_new {l : List JOp} {e : List Nat} {i b : Nat} (hi : i ∉ e) (c : cmL l i b) (h : BestI l e i (b : Int)) : BestI l e (i + 1) (i : Int) := by
  rcases h with ⟨h1, h2⟩ | ⟨b', h1, h2, h3, h4⟩
  · omega
  · obtain rfl : b = b' := by omega
    refine .inr ⟨i, rfl, by omega, hi, fun j hj hn => ?_⟩
    by_cases q : j = i
    · exact .inl q
    · rcases h4 j (by omega) hn with rfl | k
      · exact .inr (.inl c)
      · exact .inr (bef_tr l (.inl c) k)
theorem best_old {l : List JOp} {e : List Nat} {i b : Nat} (c : ¬ cmL l i b) (h : BestI l e i (b : Int)) : BestI l e (i + 1) (b : Int) := by
  rcases h with ⟨h1, h2⟩ | ⟨b', h1, h2, h3, h4⟩
  · omega
  · obtain rfl : b = b' := by omega
    refine .inr ⟨b, rfl, by omega, h3, fun j hj hn => ?_⟩
    by_cases q : j = i
    · subst q; exact .inr (.inr ⟨c, by omega⟩)
    · exact h4 j (by omega) hn
def OrdI (l : List JOp) (e : List Nat) : Prop := e.Nodup ∧ (∀ x ∈ e, x < l.length) ∧ e.Pairwise (Bef l) ∧ ∀ x ∈ e, ∀ y, y < l.length → y ∉ e → Bef l x y
theorem ord_nil (l : List JOp) : OrdI l [] := ⟨List.nodup_nil, fun x hx => by simp at hx, List.Pairwise.nil, fun x hx => by simp at hx⟩
theorem ord_step {l : List JOp} {e : List Nat} {z : Int} (h : OrdI l e) (hl : e.length < l.length) (hb : BestI l e l.length z) : ∃ b : Nat, z = (b : Int) ∧ b < l.length ∧ OrdI l (e ++ [b]) := by
  obtain ⟨h1, h2, h3, h4⟩ := h
  rcases hb with ⟨_, k⟩ | ⟨b, rfl, b1, b2, b3⟩
  · have := nodup_sub_len (a := List.range l.length) (b := e) List.nodup_range (fun x hx => k x (List.mem_range.1 hx))
    simp at this; omega
  · refine ⟨b, rfl, b1, ?_, fun x hx => ?_, ?_, fun x hx y hy hn => ?_⟩
    · rw [List.nodup_append]
      refine ⟨h1, by simp, fun a ha c hc => ?_⟩
      rw [List.mem_singleton] at hc; subst hc
      exact fun q => b2 (q ▸ ha)
    · rcases List.mem_append.1 hx with q | q
      · exact h2 x q
      · rw [List.mem_singleton] at q; omega
    · rw [List.pairwise_append]
      refine ⟨h3, by simp, fun a ha c hc => ?_⟩
      rw [List.mem_singleton] at hc; subst hc
      exact h4 a ha c b1 b2
    · rw [List.mem_append, not_or] at hn
      rcases List.mem_append.1 hx with q | q
      · exact h4 x q y hy hn.1
      · rw [List.mem_singleton] at q; subst q
        rcases b3 y hy hn.1 with r | r
        · exact absurd (List.mem_singleton.2 r) hn.2
        · exact r
def UseI (n : Nat) (e : List Nat) (U : List Bool) : Prop := U.length = n ∧ ∀ i, i < n → U[i]? = some (decide (i ∈ e))
theorem use_nil (n : Nat) : UseI n [] (List.replicate n false) := ⟨by simp, fun i hi => by simp [hi]⟩
theorem use_step {n b : Nat} {e : List Nat} {U : List Bool} (h : UseI n e U) (hb : b < n) : UseI n (e ++ [b]) (U.set b true) := by
  refine ⟨by rw [List.length_set]; exact h.1, fun i hi => ?_⟩
  rw [List.getElem?_set]
  by_cases q : b = i
  · subst q; rw [if_pos rfl, if_pos (by rw [h.1]; exact hb)]; simp
  · rw [if_neg q, h.2 i hi]; congr 1; simp; intro r; exact absurd r.symm q
theorem use_at {n i : Nat} {e : List Nat} {U : List Bool} {y : Bool} (h : UseI n e U) (hy : U[i]? = some y) : y = true ↔ i ∈ e := by
  have hi := (List.getElem?_eq_some_iff.1 hy).1
  rw [h.1] at hi
  rw [h.2 i hi] at hy; cases hy; simp
theorem refOrder_ran (W : Mem h h [] []) {V : Value} {l : List JOp} (A : KJOp.Sl h V l) (hl : l.length ≤ 60) : Cll tab0 10 [V] h (fun v h2 => ∃ e S, KNi.Own v e S ∧ e.Perm (List.range l.length) ∧ e.Pairwise (Bef l) ∧ Mem h h2 [S] []) := by
  obtain ⟨Pl, nl, rfl⟩ := A.shape
  refine Cll.code rfl rfl ?_
  refine WC.env [(0, _)] rfl ?_
  refine WC.seq (WC.run (C rfl rfl (WS.nil [(0, _)] rfl ?_)))
  refine WC.seq (WC.run (C rfl rfl (WS.nil [(0, _), (3, _)] rfl ?_)))
  refine WC.seq (WC.run (C rfl rfl (C rfl (op_lenVS A rfl) ?_)))
  refine WS.mkS ((l).length) ((l).length) W rfl rfl rfl (by omega) (by omega) (by omega) ?_
  intro p1 h2 M3
  refine C rfl rfl (WS.nil [(0, _), (3, _), (4, _)] rfl ?_)
  refine WC.seq (WC.block ?_)
  obtain ⟨L4, eL6, M5⟩ := Mem.name2 (((M3.bare.focus 0 rfl)).nils)
  refine WC.loop (σ := Value × Seg × List Nat × List Bool) (fun ((V_, S_, e, U)) => [(0, (.slice Pl l.length nl)), (3, V_), (4, (.slice (some ⟨p1, 0, none⟩) (l).length (2 * ((l).length) + 1)))]) (fun ((V_, S_, e, U)) hh => Mem h hh (S_ :: [(p1, ⟨KBool.flat U, 1, false⟩)] :: L4) [] ∧ KNi.Own V_ e S_ ∧ OrdI l e ∧ UseI l.length e U ∧ e.length ≤ l.length) (fun ((V_, S_, e, U)) => l.length - e.length) (_, _, [], (List.replicate l.length false)) rfl ⟨(by rw [← zrep_flat (K := KBool) (y0 := false) rfl l.length]; exact M5), ?_⟩ ?_
  · exact ⟨.nil, ord_nil l, use_nil _, by simp⟩
  ·rintro ⟨V_, S_, e, U⟩ h7 ⟨M8, ⟨hO, hO2, hU, he⟩⟩
   replace eL6 := eL6.symm; subst eL6
   refine WC.env [(0, _), (3, _), (4, _)] rfl ?_
   refine WC.seq (WC.seq (WC.run (C rfl rfl (C rfl (op_lenVO hO rfl) (C rfl rfl (C rfl (op_lenVS A rfl) ?_))))))
   refine WS.lssN (a := (e).length) (b := (l).length) rfl rfl rfl (fun e14 => ?_) (fun e14 => ?_)
   ·
    refine WS.nil [(0, _), (3, _), (4, _), (14, _)] rfl ?_
    refine WC.condT rfl (WC.skip (WC.block (WC.seq (WC.run (C rfl rfl (WS.nil [(0, _), (3, _), (4, _), (5, _)] rfl ?_))))))
    refine WC.seq (WC.seq (WC.run (C rfl rfl (WS.nil [(0, _), (3, _), (4, _), (5, _), (6, _)] rfl ?_))))
    refine WC.block ?_
    obtain ⟨L9, eL11, M10⟩ := Mem.name M8.bare
    refine WC.loop (σ := Nat × Int) (fun ((i, z)) => [(0, (.slice Pl l.length nl)), (3, V_), (4, (.slice (some ⟨p1, 0, none⟩) (l).length (2 * ((l).length) + 1))), (5, (.int .i64 z)), (6, (.int .i64 ((i : Nat) : Int)))]) (fun ((i, z)) hh => Mem h hh (L9) [] ∧ i ≤ l.length ∧ BestI l e i z) (fun ((i, z)) => l.length - i) (0, -1) rfl ⟨M10, ?_⟩ ?_
    · exact ⟨by omega, best_zero l e⟩
    ·rintro ⟨i, z⟩ h12 ⟨M13, ⟨hi, hB⟩⟩
     replace eL11 := eL11.symm; subst eL11
     refine WC.env [(0, _), (3, _), (4, _), (5, _), (6, _)] rfl ?_
     refine WC.seq (WC.seq (WC.run (C rfl rfl (C rfl rfl (C rfl (op_lenVS A rfl) ?_)))))
     refine WS.lssN (a := i) (b := (l).length) rfl rfl rfl (fun e18 => ?_) (fun e18 => ?_)
     ·
      refine WS.nil [(0, _), (3, _), (4, _), (5, _), (6, _), (18, _)] rfl ?_
      refine WC.condT rfl (WC.skip (WC.seq (WC.block (WC.seq (WC.draw M13 [] rfl ?_)))))
      intro rb14 h15 M16
      refine C rfl rfl (C rfl rfl ?_)
      obtain ⟨y23, hy23⟩ : ∃ y, (U)[i]? = some y := ⟨_, List.getElem?_eq_getElem (show i < (U).length by first | omega | (rw [hU.1]; omega))⟩
      have hu := use_at hU hy23
      refine C rfl (op_iaV2 i rfl rfl (by first | omega | (rw [hU.1]; omega))) (C rfl (op_ldH rfl (Row.ld (K := KBool) (k := 0) (M16.at 1 rfl) hy23 rfl)) ?_)
      cases hb1 : y23
      ·
       refine WS.opV (.bool true) rfl rfl rfl (C rfl rfl (C rfl rfl ?_))
       refine WS.lss (a := z) (b := (0 : Int)) rfl rfl rfl (fun e28 => ?_) (fun e28 => ?_)
       ·
        refine C rfl rfl (WS.off rfl (WS.off rfl (WS.off rfl (WS.off rfl (WS.off rfl (WS.off rfl (WS.off rfl (WS.off rfl (WS.offC rfl ?_)))))))))
        refine C rfl rfl (C rfl rfl (WS.nil [(0, _), (3, _), (4, _), (5, _), (6, _), (40, _)] rfl ?_))
        refine WC.condT rfl (WC.run (C rfl rfl (C rfl rfl (WS.nil [(0, _), (3, _), (4, _), (5, _), (6, _)] rfl ?_))))
        refine WC.run (C rfl rfl (WS.opV (.int .i64 (((i + 1) : Nat) : Int)) rfl rfl (add_i64 (a := i) (b := 1) (by omega)) (C rfl rfl (WS.nil [(0, _), (3, _), (4, _), (5, _), (6, _)] rfl ?_))))
        refine ⟨(i + 1, ((i : Nat) : Int)), rfl, ⟨(((M16.bare.bare.focus 1 rfl).focus 1 rfl).take 2), ?_⟩, ?_⟩
        · first | exact ⟨by omega, best_skip (hu.1 (by assumption)) hB⟩ | exact ⟨by omega, best_first (by assumption) (fun q => by have := hu.2 q; simp_all; done) hB⟩ | exact ⟨by omega, best_new (fun q => by have := hu.2 q; simp_all; done) (by unfold cmL; rw [getD_of hy32, getD_of hy36]; exact of_decide_eq_true (by assumption)) hB⟩ | exact ⟨by omega, best_old (by unfold cmL; rw [getD_of hy32, getD_of hy36]; exact of_decide_eq_false (by assumption)) hB⟩
        · simp only []; omega
       ·
        obtain ⟨b, rfl⟩ : ∃ b : Nat, z = (b : Int) := ⟨z.toNat, by omega⟩
        have hbi : b < i := by (rcases hB with ⟨q, _⟩ | ⟨b2, q, q2, _⟩ <;> omega)
        refine C rfl rfl (C rfl rfl (C rfl rfl ?_))
        obtain ⟨y32, hy32⟩ : ∃ y, (l)[i]? = some y := ⟨_, List.getElem?_eq_getElem (show i < (l).length by first | omega | (simp only [List.length_drop, List.length_take, List.length_append, List.length_cons, List.length_nil, List.length_singleton]; omega) | (simp only [List.length_drop, List.length_take, List.length_append, List.length_cons, List.length_nil, List.length_singleton] at *; omega))⟩
        refine WS.iaVS A i hy32 rfl rfl rfl rfl ?_
        intro b32_ o32_ ha32
        refine C rfl (op_ldAt rfl (ha32.mono M16.sub) rfl) (C rfl rfl (C rfl rfl ?_))
        obtain ⟨y36, hy36⟩ : ∃ y, (l)[b]? = some y := ⟨_, List.getElem?_eq_getElem (show b < (l).length by first | omega | (simp only [List.length_drop, List.length_take, List.length_append, List.length_cons, List.length_nil, List.length_singleton]; omega) | (simp only [List.length_drop, List.length_take, List.length_append, List.length_cons, List.length_nil, List.length_singleton] at *; omega))⟩
        refine WS.iaVS A b hy36 rfl rfl rfl rfl ?_
        intro b36_ o36_ ha36
        refine C rfl (op_ldAt rfl (ha36.mono M16.sub) rfl) ?_
        refine WS.call rfl rfl rfl (refAhead_ran M16.here (a := y32) (b := y36)) ?_
        rintro _ h17 ⟨rfl, N18⟩
        have M19 := M16.trans N18
        refine C rfl rfl (C rfl rfl (WS.nil [(0, _), (3, _), (4, _), (5, _), (6, _), (40, _)] rfl ?_))
        cases hb2 : (decide (kLt y32 y36))
        ·
         refine WC.condF rfl (WC.skip (WC.run (C rfl rfl (WS.opV (.int .i64 (((i + 1) : Nat) : Int)) rfl rfl (add_i64 (a := i) (b := 1) (by omega)) (C rfl rfl (WS.nil [(0, _), (3, _), (4, _), (5, _), (6, _)] rfl ?_))))))
         refine ⟨(i + 1, ((b : Nat) : Int)), rfl, ⟨(((M19.bare.bare.focus 1 rfl).focus 1 rfl).take 2), ?_⟩, ?_⟩
         · first | exact ⟨by omega, best_skip (hu.1 (by assumption)) hB⟩ | exact ⟨by omega, best_first (by assumption) (fun q => by have := hu.2 q; simp_all; done) hB⟩ | exact ⟨by omega, best_new (fun q => by have := hu.2 q; simp_all; done) (by unfold cmL; rw [getD_of hy32, getD_of hy36]; exact of_decide_eq_true (by assumption)) hB⟩ | exact ⟨by omega, best_old (by unfold cmL; rw [getD_of hy32, getD_of hy36]; exact of_decide_eq_false (by assumption)) hB⟩
         · simp only []; omega
        ·
         refine WC.condT rfl (WC.run (C rfl rfl (C rfl rfl (WS.nil [(0, _), (3, _), (4, _), (5, _), (6, _)] rfl ?_))))
         refine WC.run (C rfl rfl (WS.opV (.int .i64 (((i + 1) : Nat) : Int)) rfl rfl (add_i64 (a := i) (b := 1) (by omega)) (C rfl rfl (WS.nil [(0, _), (3, _), (4, _), (5, _), (6, _)] rfl ?_))))
         refine ⟨(i + 1, ((i : Nat) : Int)), rfl, ⟨(((M19.bare.bare.focus 1 rfl).focus 1 rfl).take 2), ?_⟩, ?_⟩
         · first | exact ⟨by omega, best_skip (hu.1 (by assumption)) hB⟩ | exact ⟨by omega, best_first (by assumption) (fun q => by have := hu.2 q; simp_all; done) hB⟩ | exact ⟨by omega, best_new (fun q => by have := hu.2 q; simp_all; done) (by unfold cmL; rw [getD_of hy32, getD_of hy36]; exact of_decide_eq_true (by assumption)) hB⟩ | exact ⟨by omega, best_old (by unfold cmL; rw [getD_of hy32, getD_of hy36]; exact of_decide_eq_false (by assumption)) hB⟩
         · simp only []; omega
      ·
       refine WS.opV (.bool false) rfl rfl rfl (C rfl rfl (WS.off rfl (WS.off rfl (WS.off rfl (WS.off rfl (WS.off rfl (WS.off rfl (WS.off rfl (WS.off rfl ?_)))))))))
       refine WS.off rfl (WS.off rfl (WS.off rfl (WS.offC rfl (WS.off rfl (C rfl rfl (WS.nil [(0, _), (3, _), (4, _), (5, _), (6, _), (40, _)] rfl ?_))))))
       refine WC.condF rfl (WC.skip (WC.run (C rfl rfl (WS.opV (.int .i64 (((i + 1) : Nat) : Int)) rfl rfl (add_i64 (a := i) (b := 1) (by omega)) (C rfl rfl (WS.nil [(0, _), (3, _), (4, _), (5, _), (6, _)] rfl ?_))))))
       refine ⟨(i + 1, z), rfl, ⟨(((M16.bare.bare.focus 1 rfl).focus 1 rfl).take 2), ?_⟩, ?_⟩
       · first | exact ⟨by omega, best_skip (hu.1 (by assumption)) hB⟩ | exact ⟨by omega, best_first (by assumption) (fun q => by have := hu.2 q; simp_all; done) hB⟩ | exact ⟨by omega, best_new (fun q => by have := hu.2 q; simp_all; done) (by unfold cmL; rw [getD_of hy32, getD_of hy36]; exact of_decide_eq_true (by assumption)) hB⟩ | exact ⟨by omega, best_old (by unfold cmL; rw [getD_of hy32, getD_of hy36]; exact of_decide_eq_false (by assumption)) hB⟩
       · simp only []; omega
     ·
      refine WS.nil [(0, _), (3, _), (4, _), (5, _), (6, _), (18, _)] rfl ?_
      refine WC.condF rfl (WC.exit ?_)
      refine WC.seq (WC.run ?_)
      obtain ⟨b, rfl, hbn, hO3⟩ := ord_step hO2 (by omega) (by rw [show l.length = i by omega]; exact hB)
      refine C rfl rfl (C rfl rfl ?_)
      obtain ⟨y44, hy44⟩ : ∃ y, (U)[b]? = some y := ⟨_, List.getElem?_eq_getElem (show b < (U).length by first | omega | (rw [hU.1]; omega))⟩
      refine C rfl (op_iaV2 b rfl rfl (by first | omega | (rw [hU.1]; omega))) ?_
      refine WS.stN (K := KBool) (y' := (true)) (M13.focus 1 rfl) (List.getElem?_eq_some_iff.1 hy44).1 rfl rfl rfl rfl rfl ?_
      intro h20 M21
      replace M21 : Mem _ _ ([(p1, _)] :: S_ :: []) _ := M21
      have hye22 : (U.set b (true))[b]? = some (true) := List.getElem?_set_self (List.getElem?_eq_some_iff.1 hy44).1
      refine WS.nil [(0, _), (3, _), (4, _), (5, _)] rfl ?_
      refine WC.run (C rfl rfl (C rfl rfl ?_))
      refine WS.bsl M21 [_] rfl rfl rfl rfl ?_
      intro p23 h24 M25
      refine WS.app (l := e) (m := [b]) (hO) (M25.focus 2 rfl) (Row.Src.one (K := KNi) (m := [b]) (M25.at 0 rfl)) rfl (by simp only [List.length_cons, List.length_nil]; omega) (by simp only [List.length_cons, List.length_nil]; omega) rfl rfl rfl ?_
      intro V26 S27 h28 O29 M30
      obtain ⟨P31, rfl⟩ := Row.Own.shape O29
      refine C rfl rfl (WS.nil [(0, _), (3, _), (4, _)] rfl ?_)
      refine ⟨((.slice P31 ((e ++ [b])).length (2 * ((e ++ [b])).length)), S27, e ++ [b], U.set b true), rfl, ⟨(((M30.bare.focus 2 rfl).focus 1 rfl).take 2), ?_⟩, ?_⟩
      · exact ⟨O29, hO3, use_step hU hbn, by simp; omega⟩
      · simp only [List.length_append, List.length_cons, List.length_nil]; omega
   ·
    refine WS.nil [(0, _), (3, _), (4, _), (14, _)] rfl ?_
    refine WC.condF rfl (WC.exit ?_)
    refine WC.seq (WC.run (C rfl rfl (C rfl rfl (WS.nil [(2, _)] rfl ?_))))
    refine WC.ret (⟨[_], (res_tmp rfl res_nil), ?_⟩)
    exact ⟨e, _, hO, perm_range hO2.1 hO2.2.1 (by omega), hO2.2.2.1, ((M8.bare.focus 0 rfl).take 1)⟩
end Go.Proofs.Ytfcpokolbifilaa.Wt
