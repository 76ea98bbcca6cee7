/- The law 'JudgeKeeps' returns true for all arguments: what its proof stands on, part 5. -/
import Derived.Test.YtfcpokolbifilaaZJudgeKeeps4
import Derived.Test.YtfcpokolbifilaaProg
import Derived.KernelRfl
namespace Go.Proofs.Ytfcpokolbifilaa.IrAll
open Go Go.Proofs.Ytfcpokolbifilaa.Am
open Go.Operand renaming tmp → t, const → c
open Go.Value renaming int → i, string → g, bool → b
open Go.IntKind renaming i64 → I, u64 → U, u8 → B
open Option renaming some → S, none → N
open Go.Proofs.Ytfcpokolbifilaa.Am.Step renaming op → o, call → y
open Go.Proofs.Ytfcpokolbifilaa.Am.IOp renaming mov → m
open Go.Proofs.Ytfcpokolbifilaa.Am.IC renaming seq → q, cond → k, run → r, skip → s
def hi5 : List Hint := [.keep [0], .keep [0, 13], .keep [2], .keep [0, 3], .keep [0, 3, 21], .keep [2], .keep [0, 3, 4], .keep [0, 3, 4, 5], .keep [0, 3, 4, 5, 6], .keep [0, 3, 4, 5, 6], .keep [0, 3, 4, 5, 6, 25], .keep [0, 3, 4, 5, 6, 49], .keep [2], .keep [0, 3, 4, 5, 6], .keep [0, 3, 4, 5, 6], .keep [0, 3, 4, 5, 6, 62], .keep [0, 3, 4, 5, 6, 7], .keep [0, 3, 4, 5, 6, 7, 8], .keep [0, 3, 4, 5, 6, 98], .keep [2], .keep [0, 3, 4, 5, 6], .keep [0, 4, 101], .keep [2], .keep [0, 4, 9], .keep [0, 4, 9], .keep [0, 4, 9, 106], .keep [0, 4, 9, 10], .keep [0, 4, 9, 10], .keep [0, 4, 9, 10, 112], .draw [.op 0, .op 1, .op 2, .op 3, .op 4, .op 5, .op 6, .op 7, .op 8, .op 9, .op 10, .op 11, .op 12, .op 13, .op 14, .op 15, .op 16, .op 17, .op 18, .op 19] [0, 4, 9, 10, 134], .keep [2], .keep [0, 4, 9, 10], .keep [0, 4, 9], .keep [2]]
def ir5 : IFun := ⟨1, [.tmp 2], (q (r [o (S 2) N (m (c (b false)))] [0]) (q (q (r [o (S 11) N (m (t 0)), o (S 12) N (.lenV (t 11)), o (S 13) N (.bin .gtr (t 12) (c (i I 60)))] [0, 13]) (k (t 13) (q (r [y (S 14) N (.fn 7) [], o (S 2) N (m (t 14))] [2]) .ret) s)) (q (r [o (S 15) N (m (t 0)), y (S 16) N (.fn 9) [(t 15)], o (S 3) N (m (t 16))] [0, 3]) (q (q (r [o (S 17) N (m (t 3)), o (S 18) N (.lenV (t 17)), o (S 19) N (m (t 0)), o (S 20) N (.lenV (t 19)), o (S 21) N (.bin .neq (t 18) (t 20))] [0, 3, 21]) (k (t 21) (q (r [o (S 2) N (m (c (b false)))] [2]) .ret) s)) (q (r [o (S 4) N (.new [(i I 0), (i I 0), (i I 0), (i I 0), (i I 0), (i I 0), (i I 0), (i I 0), (i I 0), (i I 0), (i I 0), (i I 0), (i I 0), (i I 0), (i I 0), (i I 0), (i I 0), (i I 0), (i I 0), (i I 0), (i I 0), (i I 0), (i I 0), (i I 0), (i I 0), (i I 0), (i I 0), (i I 0), (i I 0), (i I 0), (i I 0), (i I 0), (i I 0), (i I 0), (i I 0), (i I 0), (i I 0), (i I 0), (i I 0), (i I 0), (i I 0), (i I 0), (i I 0), (i I 0), (i I 0), (i I 0), (i I 0), (i I 0), (i I 0), (i I 0), (i I 0), (i I 0), (i I 0), (i I 0), (i I 0), (i I 0), (i I 0), (i I 0), (i I 0), (i I 0)])] [0, 3, 4]) (q (r [o (S 5) N (.new [(b false), (b false), (b false), (b false), (b false), (b false), (b false), (b false), (b false), (b false), (b false), (b false), (b false), (b false), (b false), (b false), (b false), (b false), (b false), (b false), (b false), (b false), (b false), (b false), (b false), (b false), (b false), (b false), (b false), (b false), (b false), (b false), (b false), (b false), (b false), (b false), (b false), (b false), (b false), (b false), (b false), (b false), (b false), (b false), (b false), (b false), (b false), (b false), (b false), (b false), (b false), (b false), (b false), (b false), (b false), (b false), (b false), (b false), (b false), (b false)])] [0, 3, 4, 5]) (q (q (r [o (S 6) N (m (c (i I 0)))] [0, 3, 4, 5, 6]) (.block 0 (.loop [0, 3, 4, 5, 6] (q (q (r [o (S 22) N (m (t 6)), o (S 23) N (m (t 3)), o (S 24) N (.lenV (t 23)), o (S 25) N (.bin .lss (t 22) (t 24))] [0, 3, 4, 5, 6, 25]) (k (t 25) .skip (.exit 0))) (q (.block 1 (q (q (r [o (S 28) N (m (t 3)), o (S 29) N (m (t 6)), o (S 30) N (.iaV 1 (t 28) (t 29)), o (S 31) N (.ld1 (t 30)), o (S 32) N (.bin .lss (t 31) (c (i I 0))), o (S 33) N (m (t 32)), o (S 34) (S (33, false)) (m (t 3)), o (S 35) (S (33, false)) (m (t 6)), o (S 36) (S (33, false)) (.iaV 1 (t 34) (t 35)), o (S 37) (S (33, false)) (.ld1 (t 36)), o (S 38) (S (33, false)) (m (t 0)), o (S 39) (S (33, false)) (.lenV (t 38)), o (S 40) (S (33, false)) (.bin .geq (t 37) (t 39)), o (S 41) N (.pick (t 33) (c (b true)) (t 40)), o (S 42) N (m (t 41)), o (S 43) (S (42, false)) (m (t 3)), o (S 44) (S (42, false)) (m (t 6)), o (S 45) (S (42, false)) (.iaV 1 (t 43) (t 44)), o (S 46) (S (42, false)) (.ld1 (t 45)), o (S 47) (S (42, false)) (.iaA 60 1 (t 5) (t 46)), o (S 48) (S (42, false)) (.ld1 (t 47)), o (S 49) N (.pick (t 42) (c (b true)) (t 48))] [0, 3, 4, 5, 6, 49]) (k (t 49) (q (r [o (S 2) N (m (c (b false)))] [2]) .ret) s)) (q (r [o (S 50) N (m (t 3)), o (S 51) N (m (t 6)), o (S 52) N (.iaV 1 (t 50) (t 51)), o (S 53) N (.ld1 (t 52)), o (S 54) N (.iaA 60 1 (t 5) (t 53)), o N N (.st 1 (t 54) (c (b true)))] [0, 3, 4, 5, 6]) (q (r [o (S 55) N (m (t 3)), o (S 56) N (m (t 6)), o (S 57) N (.iaV 1 (t 55) (t 56)), o (S 58) N (.ld1 (t 57)), o (S 59) N (m (t 6)), o (S 60) N (.iaA 60 1 (t 4) (t 58)), o N N (.st 1 (t 60) (t 59))] [0, 3, 4, 5, 6]) (q (r [o (S 61) N (m (t 6)), o (S 62) N (.bin .gtr (t 61) (c (i I 0)))] [0, 3, 4, 5, 6, 62]) (k (t 62) (q (r [o (S 63) N (m (t 0)), o (S 64) N (m (t 3)), o (S 65) N (m (t 6)), o (S 66) N (.bin .sub (t 65) (c (i I 1))), o (S 67) N (.iaV 1 (t 64) (t 66)), o (S 68) N (.ld1 (t 67)), o (S 69) N (.iaV 4 (t 63) (t 68)), o (S 70) N (.ldN 4 (t 69)), o (S 7) N (.new [(i I 0), (i I 0), (i U 0), (b false)]), o N N (.st 4 (t 7) (t 70))] [0, 3, 4, 5, 6, 7]) (q (r [o (S 71) N (m (t 0)), o (S 72) N (m (t 3)), o (S 73) N (m (t 6)), o (S 74) N (.iaV 1 (t 72) (t 73)), o (S 75) N (.ld1 (t 74)), o (S 76) N (.iaV 4 (t 71) (t 75)), o (S 77) N (.ldN 4 (t 76)), o (S 8) N (.new [(i I 0), (i I 0), (i U 0), (b false)]), o N N (.st 4 (t 8) (t 77))] [0, 3, 4, 5, 6, 7, 8]) (q (r [o (S 78) N (.fa 2 (t 7)), o (S 79) N (.ld1 (t 78)), o (S 80) N (.fa 2 (t 8)), o (S 81) N (.ld1 (t 80)), o (S 82) N (.bin .gtr (t 79) (t 81)), o (S 83) N (m (t 82)), o (S 84) (S (83, false)) (.fa 2 (t 7)), o (S 85) (S (83, false)) (.ld1 (t 84)), o (S 86) (S (83, false)) (.fa 2 (t 8)), o (S 87) (S (83, false)) (.ld1 (t 86)), o (S 88) (S (83, false)) (.bin .eql (t 85) (t 87)), o (S 89) (S (83, false)) (m (t 88)), o (S 90) (S (89, true)) (.fa 3 (t 7)), o (S 91) (S (89, true)) (.ld1 (t 90)), o (S 92) (S (83, false)) (.pick (t 89) (t 91) (c (b false))), o (S 93) (S (83, false)) (m (t 92)), o (S 94) (S (93, true)) (.fa 3 (t 8)), o (S 95) (S (93, true)) (.ld1 (t 94)), o (S 96) (S (93, true)) (.un .not (t 95)), o (S 97) (S (83, false)) (.pick (t 93) (t 96) (c (b false))), o (S 98) N (.pick (t 83) (c (b true)) (t 97))] [0, 3, 4, 5, 6, 98]) (k (t 98) (q (r [o (S 2) N (m (c (b false)))] [2]) .ret) s)))) s)))))) (r [o (S 26) N (m (t 6)), o (S 27) N (.bin .add (t 26) (c (i I 1))), o (S 6) N (m (t 27))] [0, 3, 4, 5, 6])))))) (q (q (r [o (S 99) N (m (t 0)), y (S 100) N (.fn 11) [(t 99)], o (S 101) N (.un .not (t 100))] [0, 4, 101]) (k (t 101) (q (r [y (S 102) N (.fn 7) [], o (S 2) N (m (t 102))] [2]) .ret) s)) (q (q (r [o (S 9) N (m (c (i I 0)))] [0, 4, 9]) (.block 2 (.loop [0, 4, 9] (q (q (r [o (S 103) N (m (t 9)), o (S 104) N (m (t 0)), o (S 105) N (.lenV (t 104)), o (S 106) N (.bin .lss (t 103) (t 105))] [0, 4, 9, 106]) (k (t 106) .skip (.exit 2))) (q (.block 3 (q (r [o (S 10) N (m (c (i I 0)))] [0, 4, 9, 10]) (.block 4 (.loop [0, 4, 9, 10] (q (q (r [o (S 109) N (m (t 10)), o (S 110) N (m (t 0)), o (S 111) N (.lenV (t 110)), o (S 112) N (.bin .lss (t 109) (t 111))] [0, 4, 9, 10, 112]) (k (t 112) .skip (.exit 4))) (q (.block 5 (q (.draw 20 [o (S 115) N (m (t 0)), o (S 116) N (m (t 9)), o (S 117) N (.iaV 4 (t 115) (t 116)), o (S 118) N (.fa 1 (t 117)), o (S 119) N (.ld1 (t 118)), o (S 120) N (m (t 0)), o (S 121) N (m (t 10)), o (S 122) N (.iaV 4 (t 120) (t 121)), o (S 123) N (.fa 0 (t 122)), o (S 124) N (.ld1 (t 123)), o (S 125) N (.bin .lss (t 119) (t 124)), o (S 126) N (m (t 125)), o (S 127) (S (126, true)) (m (t 9)), o (S 128) (S (126, true)) (.iaA 60 1 (t 4) (t 127)), o (S 129) (S (126, true)) (.ld1 (t 128)), o (S 130) (S (126, true)) (m (t 10)), o (S 131) (S (126, true)) (.iaA 60 1 (t 4) (t 130)), o (S 132) (S (126, true)) (.ld1 (t 131)), o (S 133) (S (126, true)) (.bin .geq (t 129) (t 132)), o (S 134) N (.pick (t 126) (t 133) (c (b false)))] [0, 4, 9, 10, 134]) (k (t 134) (q (r [o (S 2) N (m (c (b false)))] [2]) .ret) s))) (r [o (S 113) N (m (t 10)), o (S 114) N (.bin .add (t 113) (c (i I 1))), o (S 10) N (m (t 114))] [0, 4, 9, 10]))))))) (r [o (S 107) N (m (t 9)), o (S 108) N (.bin .add (t 107) (c (i I 1))), o (S 9) N (m (t 108))] [0, 4, 9])))))) (q (r [y (S 135) N (.fn 7) [], o (S 2) N (m (t 135))] [2]) .ret))))))))))⟩
theorem ok5 : compF Try.prog 5 hi5 = some ir5 := by kernel_rfl
def hi7 : List Hint := [.keep [], .keep [1], .keep [0]]
def ir7 : IFun := ⟨0, [.tmp 0], (q (r [o (S 0) N (m (c (b false)))] []) (q (r [y (S 2) N (.fn 16) [(c (i I 0)), (c (i I 3)), (c (i U 6))], y (S 3) N (.fn 15) [(c (i I 0)), (c (i I 4)), (c (i U 5))], y (S 4) N (.fn 16) [(c (i I 0)), (c (i I 2)), (c (i U 5))], o (S 5) N (.bsl 4 3 [(i I 0), (i I 0), (i U 0), (b false), (i I 0), (i I 0), (i U 0), (b false), (i I 0), (i I 0), (i U 0), (b false)] [(0, 4, (t 2)), (4, 4, (t 3)), (8, 4, (t 4))]), y (S 6) N (.fn 9) [(t 5)], o (S 1) N (m (t 6))] [1]) (q (r [y (S 7) N (.fn 16) [(c (i I 0)), (c (i I 3)), (c (i U 5))], y (S 8) N (.fn 16) [(c (i I 4)), (c (i I 6)), (c (i U 6))], o (S 9) N (.bsl 4 2 [(i I 0), (i I 0), (i U 0), (b false), (i I 0), (i I 0), (i U 0), (b false)] [(0, 4, (t 7)), (4, 4, (t 8))]), y (S 10) N (.fn 11) [(t 9)], o (S 11) N (m (t 10)), y (S 12) (S (11, true)) (.fn 16) [(c (i I 0)), (c (i I 3)), (c (i U 5))], y (S 13) (S (11, true)) (.fn 16) [(c (i I 4)), (c (i I 6)), (c (i U 4))], o (S 14) (S (11, true)) (.bsl 4 2 [(i I 0), (i I 0), (i U 0), (b false), (i I 0), (i I 0), (i U 0), (b false)] [(0, 4, (t 12)), (4, 4, (t 13))]), y (S 15) (S (11, true)) (.fn 11) [(t 14)], o (S 16) (S (11, true)) (.un .not (t 15)), o (S 17) N (.pick (t 11) (t 16) (c (b false))), o (S 18) N (m (t 17)), o (S 19) (S (18, true)) (m (t 1)), o (S 20) (S (18, true)) (.lenV (t 19)), o (S 21) (S (18, true)) (.bin .eql (t 20) (c (i I 3))), o (S 22) N (.pick (t 18) (t 21) (c (b false))), o (S 23) N (m (t 22)), o (S 24) (S (23, true)) (m (t 1)), o (S 25) (S (23, true)) (.iaV 1 (t 24) (c (i I 0))), o (S 26) (S (23, true)) (.ld1 (t 25)), o (S 27) (S (23, true)) (.bin .eql (t 26) (c (i I 2))), o (S 28) N (.pick (t 23) (t 27) (c (b false))), o (S 29) N (m (t 28)), o (S 30) (S (29, true)) (m (t 1)), o (S 31) (S (29, true)) (.iaV 1 (t 30) (c (i I 1))), o (S 32) (S (29, true)) (.ld1 (t 31)), o (S 33) (S (29, true)) (.bin .eql (t 32) (c (i I 1))), o (S 34) N (.pick (t 29) (t 33) (c (b false))), o (S 35) N (m (t 34)), y (S 36) (S (35, true)) (.fn 16) [(c (i I 0)), (c (i I 3)), (c (i U 5))], y (S 37) (S (35, true)) (.fn 16) [(c (i I 4)), (c (i I 6)), (c (i U 6))], y (S 38) (S (35, true)) (.fn 13) [(t 36), (t 37)], o (S 39) N (.pick (t 35) (t 38) (c (b false))), o (S 0) N (m (t 39))] [0]) .ret)))⟩
theorem ok7 : compF Try.prog 7 hi7 = some ir7 := by kernel_rfl
def hi9 : List Hint := [.keep [1], .keep [1, 3], .keep [1, 3, 6, 7], .keep [1, 3, 6, 7], .keep [1, 3, 6, 7, 8], .keep [1, 3, 4, 6, 7], .keep [1, 3, 6, 7], .keep [1, 3, 6, 7], .keep [3], .keep [2]]
def ir9 : IFun := ⟨1, [.tmp 2], (q (r [o (S 1) N (.box (t 0)), o (S 2) N (m (c (.slice none 0 0)))] [1]) (q (r [o (S 3) N (m (c (.slice none 0 0)))] [1, 3]) (q (q (r [o (S 5) N (.ld1 (t 1)), o (S 6) N (.lenV (t 5)), o (S 7) N (m (c (i I 0)))] [1, 3, 6, 7]) (.block 0 (.loop [1, 3, 6, 7] (q (r [o (S 8) N (.bin .lss (t 7) (t 6))] [1, 3, 6, 7, 8]) (q (k (t 8) .skip (.exit 0)) (q (.block 1 (q (r [o (S 9) N (m (t 7)), o (S 4) N (m (t 9))] [1, 3, 4, 6, 7]) (r [o (S 10) N (m (t 3)), o (S 11) N (m (t 4)), o (S 12) N (.bsl 1 1 [(i I 0)] [(0, 1, (t 11))]), o (S 13) N (.app 1 8 (t 10) (t 12)), o (S 3) N (m (t 13))] [1, 3, 6, 7]))) (r [o (S 14) N (.bin .add (t 7) (c (i I 1))), o (S 7) N (m (t 14))] [1, 3, 6, 7]))))))) (q (r [o (S 15) N (m (t 3)), o (S 16) N (.mkF (.func 18) [] [(t 1)]), y (S 17) N (.fn 17) [(t 15), (t 16)]] [3]) (q (r [o (S 18) N (m (t 3)), o (S 2) N (m (t 18))] [2]) .ret)))))⟩
theorem ok9 : compF Try.prog 9 hi9 = some ir9 := by kernel_rfl
def hi11 : List Hint := [.keep [0], .keep [0, 7, 8, 9], .keep [0, 7, 8, 9], .keep [0, 7, 8, 9, 10], .keep [0, 3, 4, 7, 8, 9], .keep [0, 3, 4, 7, 8, 9, 18], .keep [2], .keep [0, 3, 4, 7, 8, 9, 19, 20, 21], .keep [0, 3, 4, 7, 8, 9, 19, 20, 21], .keep [0, 3, 4, 7, 8, 9, 19, 20, 21, 22], .keep [0, 3, 4, 5, 6, 7, 8, 9, 19, 20, 21], .keep [0, 3, 4, 7, 8, 9, 19, 20, 21, 58], .keep [2], .keep [0, 3, 4, 7, 8, 9, 19, 20, 21], .keep [0, 7, 8, 9], .keep [2]]
def ir11 : IFun := ⟨1, [.tmp 2], (q (r [o (S 2) N (m (c (b false)))] [0]) (q (q (r [o (S 7) N (m (t 0)), o (S 8) N (.lenV (t 7)), o (S 9) N (m (c (i I 0)))] [0, 7, 8, 9]) (.block 0 (.loop [0, 7, 8, 9] (q (r [o (S 10) N (.bin .lss (t 9) (t 8))] [0, 7, 8, 9, 10]) (q (k (t 10) .skip (.exit 0)) (q (.block 1 (q (r [o (S 11) N (m (t 9)), o (S 12) N (.iaV 4 (t 7) (t 9)), o (S 13) N (.ldN 4 (t 12)), o (S 4) N (.new [(i I 0), (i I 0), (i U 0), (b false)]), o (S 3) N (m (t 11)), o N N (.st 4 (t 4) (t 13))] [0, 3, 4, 7, 8, 9]) (q (q (r [o (S 14) N (.fa 0 (t 4)), o (S 15) N (.ld1 (t 14)), o (S 16) N (.fa 1 (t 4)), o (S 17) N (.ld1 (t 16)), o (S 18) N (.bin .gtr (t 15) (t 17))] [0, 3, 4, 7, 8, 9, 18]) (k (t 18) (q (r [o (S 2) N (m (c (b false)))] [2]) .ret) s)) (q (r [o (S 19) N (m (t 0)), o (S 20) N (.lenV (t 19)), o (S 21) N (m (c (i I 0)))] [0, 3, 4, 7, 8, 9, 19, 20, 21]) (.block 2 (.loop [0, 3, 4, 7, 8, 9, 19, 20, 21] (q (r [o (S 22) N (.bin .lss (t 21) (t 20))] [0, 3, 4, 7, 8, 9, 19, 20, 21, 22]) (q (k (t 22) .skip (.exit 2)) (q (.block 3 (q (r [o (S 23) N (m (t 21)), o (S 24) N (.iaV 4 (t 19) (t 21)), o (S 25) N (.ldN 4 (t 24)), o (S 6) N (.new [(i I 0), (i I 0), (i U 0), (b false)]), o (S 5) N (m (t 23)), o N N (.st 4 (t 6) (t 25))] [0, 3, 4, 5, 6, 7, 8, 9, 19, 20, 21]) (q (r [o (S 26) N (m (t 3)), o (S 27) N (m (t 5)), o (S 28) N (.bin .neq (t 26) (t 27)), o (S 29) N (m (t 28)), o (S 30) (S (29, true)) (.fa 3 (t 4)), o (S 31) (S (29, true)) (.ld1 (t 30)), o (S 32) (S (29, true)) (.un .not (t 31)), o (S 33) N (.pick (t 29) (t 32) (c (b false))), o (S 34) N (m (t 33)), o (S 35) (S (34, true)) (.fa 3 (t 6)), o (S 36) (S (34, true)) (.ld1 (t 35)), o (S 37) (S (34, true)) (.un .not (t 36)), o (S 38) N (.pick (t 34) (t 37) (c (b false))), o (S 39) N (m (t 38)), o (S 40) (S (39, true)) (.fa 2 (t 4)), o (S 41) (S (39, true)) (.ld1 (t 40)), o (S 42) (S (39, true)) (.fa 2 (t 6)), o (S 43) (S (39, true)) (.ld1 (t 42)), o (S 44) (S (39, true)) (.bin .eql (t 41) (t 43)), o (S 45) N (.pick (t 39) (t 44) (c (b false))), o (S 46) N (m (t 45)), o (S 47) (S (46, false)) (.fa 1 (t 4)), o (S 48) (S (46, false)) (.ld1 (t 47)), o (S 49) (S (46, false)) (.fa 0 (t 6)), o (S 50) (S (46, false)) (.ld1 (t 49)), o (S 51) (S (46, false)) (.bin .lss (t 48) (t 50)), o (S 52) (S (46, false)) (m (t 51)), o (S 53) (S (52, true)) (.ldN 4 (t 4)), o (S 54) (S (52, true)) (.ldN 4 (t 6)), y (S 55) (S (52, true)) (.fn 13) [(t 53), (t 54)], o (S 56) (S (52, true)) (.un .not (t 55)), o (S 57) (S (46, false)) (.pick (t 52) (t 56) (c (b false))), o (S 58) N (.pick (t 46) (c (b true)) (t 57))] [0, 3, 4, 7, 8, 9, 19, 20, 21, 58]) (k (t 58) (q (r [o (S 2) N (m (c (b false)))] [2]) .ret) s)))) (r [o (S 59) N (.bin .add (t 21) (c (i I 1))), o (S 21) N (m (t 59))] [0, 3, 4, 7, 8, 9, 19, 20, 21])))))))))) (r [o (S 60) N (.bin .add (t 9) (c (i I 1))), o (S 9) N (m (t 60))] [0, 7, 8, 9]))))))) (q (r [o (S 2) N (m (c (b true)))] [2]) .ret)))⟩
theorem ok11 : compF Try.prog 11 hi11 = some ir11 := by kernel_rfl
def hi13 : List Hint := [.keep [2, 3], .keep [4]]
def ir13 : IFun := ⟨2, [.tmp 4], (q (r [o (S 2) N (.box (t 0)), o (S 3) N (.box (t 1)), o (S 4) N (m (c (b false)))] [2, 3]) (q (r [o (S 5) N (.ldN 4 (t 2)), o (S 6) N (.ldN 4 (t 3)), y (S 7) N (.fn 19) [(t 5), (t 6)], o (S 8) N (.bin .lss (t 7) (c (i I 0))), o (S 4) N (m (t 8))] [4]) .ret))⟩
theorem ok13 : compF Try.prog 13 hi13 = some ir13 := by kernel_rfl
def hi15 : List Hint := [.keep [0, 1, 2, 6], .keep [6]]
def ir15 : IFun := ⟨3, [.cell 6 (some 4)], (q (r [o (S 6) N (.new [(i I 0), (i I 0), (i U 0), (b false)])] [0, 1, 2, 6]) (q (r [o (S 7) N (m (t 0)), o (S 8) N (m (t 1)), o (S 9) N (m (t 2)), o (S 10) N (.build [(i I 0), (i I 0), (i U 0), (b false)] [(0, 1, (t 7)), (1, 1, (t 8)), (2, 1, (t 9)), (3, 1, (c (b true)))]), o N N (.st 4 (t 6) (t 10))] [6]) .ret))⟩
theorem ok15 : compF Try.prog 15 hi15 = some ir15 := by kernel_rfl
def hi16 : List Hint := [.keep [0, 1, 2, 6], .keep [6]]
def ir16 : IFun := ⟨3, [.cell 6 (some 4)], (q (r [o (S 6) N (.new [(i I 0), (i I 0), (i U 0), (b false)])] [0, 1, 2, 6]) (q (r [o (S 7) N (m (t 0)), o (S 8) N (m (t 1)), o (S 9) N (m (t 2)), o (S 10) N (.build [(i I 0), (i I 0), (i U 0), (b false)] [(0, 1, (t 7)), (1, 1, (t 8)), (2, 1, (t 9))]), o N N (.st 4 (t 6) (t 10))] [6]) .ret))⟩
theorem ok16 : compF Try.prog 16 hi16 = some ir16 := by kernel_rfl
def hi17 : List Hint := [.keep []]
def ir17 : IFun := ⟨2, [], (r [o (S 4) N (m (t 0)), o (S 5) N (m (t 0)), o (S 6) N (.lenV (t 5)), o (S 7) N (m (t 1)), y (S 8) N (.fn 20) [(t 4), (t 6), (t 7)]] [])⟩
theorem ok17 : compF Try.prog 17 hi17 = some ir17 := by kernel_rfl
def hi18 : List Hint := [.keep [0, 1, 2], .draw [.op 0, .op 1, .op 2, .op 3, .op 4, .op 5, .op 6, .op 7, .op 8, .op 9] [5]]
def ir18 : IFun := ⟨3, [.tmp 5], (q (r [o (S 5) N (m (c (i I 0)))] [0, 1, 2]) (q (.draw 10 [o (S 6) N (.ld1 (t 2)), o (S 7) N (m (t 0)), o (S 8) N (.iaV 4 (t 6) (t 7)), o (S 9) N (.ldN 4 (t 8)), o (S 10) N (.ld1 (t 2)), o (S 11) N (m (t 1)), o (S 12) N (.iaV 4 (t 10) (t 11)), o (S 13) N (.ldN 4 (t 12)), y (S 14) N (.fn 19) [(t 9), (t 13)], o (S 5) N (m (t 14))] [5]) .ret))⟩
theorem ok18 : compF Try.prog 18 hi18 = some ir18 := by kernel_rfl
def hi19 : List Hint := [.keep [2, 3], .draw [.op 0, .op 1, .op 2, .op 3, .op 5, .op 7, .op 4, .chk 5, .chk 7, .op 6, .chk 7, .op 8, .op 9, .opA 10, .op 11, .op 12] [2, 3, 5], .keep [2, 3, 5, 24], .keep [4], .draw [.op 0, .op 1, .op 2, .op 3, .op 5, .op 6, .op 7, .op 8, .op 4, .chk 6, .chk 8, .op 9, .opA 10, .op 11, .op 12] [4]]
def ir19 : IFun := ⟨2, [.tmp 4], (q (r [o (S 2) N (.box (t 0)), o (S 3) N (.box (t 1)), o (S 4) N (m (c (i I 0)))] [2, 3]) (q (.draw 13 [o (S 6) N (.fa 2 (t 2)), o (S 7) N (.ld1 (t 6)), o (S 8) N (.fa 2 (t 3)), o (S 9) N (.ld1 (t 8)), o (S 11) N (.ldN 4 (t 2)), o (S 13) N (.ldN 4 (t 3)), y (S 10) N (.fn 22) [(t 7), (t 9)], .chk 11 none (.ldN 4 (t 2)), .chk 13 none (.ldN 4 (t 3)), y (S 12) N (.fn 24) [(t 11)], .chk 13 none (.ldN 4 (t 3)), y (S 14) N (.fn 24) [(t 13)], y (S 15) N (.fn 23) [(t 12), (t 14)], .opA (some 16) N (.bsl 1 2 [(i I 0), (i I 0)] [(0, 1, (t 10)), (1, 1, (t 15))]) 10, y (S 17) N (.fn 21) [(t 16)], o (S 5) N (m (t 17))] [2, 3, 5]) (q (q (r [o (S 18) N (m (t 5)), o (S 19) N (.bin .neq (t 18) (c (i I 0))), o (S 20) N (m (t 19)), o (S 21) (S (20, false)) (.fa 3 (t 2)), o (S 22) (S (20, false)) (.ld1 (t 21)), o (S 23) (S (20, false)) (.un .not (t 22)), o (S 24) N (.pick (t 20) (c (b true)) (t 23))] [2, 3, 5, 24]) (k (t 24) (q (r [o (S 25) N (m (t 5)), o (S 4) N (m (t 25))] [4]) .ret) s)) (q (.draw 13 [o (S 26) N (.fa 1 (t 2)), o (S 27) N (.ld1 (t 26)), o (S 28) N (.fa 1 (t 3)), o (S 29) N (.ld1 (t 28)), o (S 31) N (.fa 0 (t 2)), o (S 32) N (.ld1 (t 31)), o (S 33) N (.fa 0 (t 3)), o (S 34) N (.ld1 (t 33)), y (S 30) N (.fn 23) [(t 27), (t 29)], .chk 32 none (.ld1 (t 31)), .chk 34 none (.ld1 (t 33)), y (S 35) N (.fn 23) [(t 32), (t 34)], .opA (some 36) N (.bsl 1 2 [(i I 0), (i I 0)] [(0, 1, (t 30)), (1, 1, (t 35))]) 10, y (S 37) N (.fn 21) [(t 36)], o (S 4) N (m (t 37))] [4]) .ret))))⟩
theorem ok19 : compF Try.prog 19 hi19 = some ir19 := by kernel_rfl
def hi20 : List Hint := [.keep [0, 1, 2, 6], .keep [0, 1, 2, 6, 7, 8], .keep [0, 1, 2, 6, 7, 8], .keep [0, 1, 2, 6, 7, 8, 13], .keep [0, 1, 2, 6, 8], .keep [0, 1, 2, 6, 7, 8], .keep [0, 1, 2, 6, 7, 8], .keep [0, 1, 2, 6], .keep [0, 1, 2, 6], .keep [0, 1, 2, 6, 30], .keep [0, 1, 2, 6, 7, 8], .keep [0, 1, 2, 6, 7, 8], .keep [0, 1, 2, 6, 7, 8, 35], .keep [0, 1, 2, 6, 8], .keep [0, 1, 2, 6, 7, 8], .keep [0, 1, 2, 6, 7, 8], .keep [0, 1, 2, 6, 7, 9], .keep [0, 1, 2, 6, 7, 9, 54], .keep [0, 1, 2, 6], .keep [0, 1, 2, 6]]
def ir20 : IFun := ⟨3, [], (q (r [o (S 6) N (m (c (i I 20)))] [0, 1, 2, 6]) (q (r [o (S 10) N (m (t 6)), o (S 7) N (m (c (i I 0))), o (S 8) N (m (t 10))] [0, 1, 2, 6, 7, 8]) (q (.block 0 (.loop [0, 1, 2, 6, 7, 8] (q (q (r [o (S 11) N (m (t 8)), o (S 12) N (m (t 1)), o (S 13) N (.bin .leq (t 11) (t 12))] [0, 1, 2, 6, 7, 8, 13]) (k (t 13) .skip (.exit 0))) (.block 1 (q (r [o (S 14) N (m (t 0)), o (S 15) N (m (t 7)), o (S 16) N (m (t 8)), o (S 17) N (m (t 2)), y (S 18) N (.fn 25) [(t 14), (t 15), (t 16), (t 17)]] [0, 1, 2, 6, 8]) (q (r [o (S 19) N (m (t 8)), o (S 7) N (m (t 19))] [0, 1, 2, 6, 7, 8]) (r [o (S 20) N (m (t 8)), o (S 21) N (m (t 6)), o (S 22) N (.bin .add (t 20) (t 21)), o (S 8) N (m (t 22))] [0, 1, 2, 6, 7, 8]))))))) (q (r [o (S 23) N (m (t 0)), o (S 24) N (m (t 7)), o (S 25) N (m (t 1)), o (S 26) N (m (t 2)), y (S 27) N (.fn 25) [(t 23), (t 24), (t 25), (t 26)]] [0, 1, 2, 6]) (.block 2 (.loop [0, 1, 2, 6] (q (q (r [o (S 28) N (m (t 6)), o (S 29) N (m (t 1)), o (S 30) N (.bin .lss (t 28) (t 29))] [0, 1, 2, 6, 30]) (k (t 30) .skip (.exit 2))) (.block 3 (q (r [o (S 31) N (m (t 6)), o (S 32) N (.bin .mul (c (i I 2)) (t 31)), o (S 7) N (m (c (i I 0))), o (S 8) N (m (t 32))] [0, 1, 2, 6, 7, 8]) (q (.block 4 (.loop [0, 1, 2, 6, 7, 8] (q (q (r [o (S 33) N (m (t 8)), o (S 34) N (m (t 1)), o (S 35) N (.bin .leq (t 33) (t 34))] [0, 1, 2, 6, 7, 8, 35]) (k (t 35) .skip (.exit 4))) (.block 5 (q (r [o (S 36) N (m (t 0)), o (S 37) N (m (t 7)), o (S 38) N (m (t 7)), o (S 39) N (m (t 6)), o (S 40) N (.bin .add (t 38) (t 39)), o (S 41) N (m (t 8)), o (S 42) N (m (t 2)), y (S 43) N (.fn 26) [(t 36), (t 37), (t 40), (t 41), (t 42)]] [0, 1, 2, 6, 8]) (q (r [o (S 44) N (m (t 8)), o (S 7) N (m (t 44))] [0, 1, 2, 6, 7, 8]) (r [o (S 45) N (m (t 8)), o (S 46) N (m (t 6)), o (S 47) N (.bin .mul (c (i I 2)) (t 46)), o (S 48) N (.bin .add (t 45) (t 47)), o (S 8) N (m (t 48))] [0, 1, 2, 6, 7, 8]))))))) (q (q (r [o (S 49) N (m (t 7)), o (S 50) N (m (t 6)), o (S 51) N (.bin .add (t 49) (t 50)), o (S 9) N (m (t 51))] [0, 1, 2, 6, 7, 9]) (q (r [o (S 52) N (m (t 9)), o (S 53) N (m (t 1)), o (S 54) N (.bin .lss (t 52) (t 53))] [0, 1, 2, 6, 7, 9, 54]) (k (t 54) (r [o (S 55) N (m (t 0)), o (S 56) N (m (t 7)), o (S 57) N (m (t 9)), o (S 58) N (m (t 1)), o (S 59) N (m (t 2)), y (S 60) N (.fn 26) [(t 55), (t 56), (t 57), (t 58), (t 59)]] [0, 1, 2, 6]) s))) (r [o (S 61) N (m (t 6)), o (S 62) N (.bin .mul (t 61) (c (i I 2))), o (S 6) N (m (t 62))] [0, 1, 2, 6]))))))))))))⟩
theorem ok20 : compF Try.prog 20 hi20 = some ir20 := by kernel_rfl
def hi21 : List Hint := [.keep [0], .keep [0, 3], .keep [3, 6, 7, 8], .keep [3, 6, 7, 8], .keep [3, 6, 7, 8, 9], .keep [3, 5, 6, 7, 8], .keep [3, 5, 6, 7, 8, 14], .keep [2], .keep [3, 6, 7, 8], .keep [2]]
def ir21 : IFun := ⟨1, [.tmp 2], (q (r [o (S 2) N (m (c (i I 0)))] [0]) (q (r [o (S 3) N (m (c (i I 0)))] [0, 3]) (q (q (r [o (S 6) N (m (t 0)), o (S 7) N (.lenV (t 6)), o (S 8) N (m (c (i I 0)))] [3, 6, 7, 8]) (.block 0 (.loop [3, 6, 7, 8] (q (r [o (S 9) N (.bin .lss (t 8) (t 7))] [3, 6, 7, 8, 9]) (q (k (t 9) .skip (.exit 0)) (q (.block 1 (q (r [o (S 10) N (.iaV 1 (t 6) (t 8)), o (S 11) N (.ld1 (t 10)), o (S 5) N (m (t 11))] [3, 5, 6, 7, 8]) (q (r [o (S 12) N (m (t 5)), o (S 13) N (m (t 3)), o (S 14) N (.bin .neq (t 12) (t 13))] [3, 5, 6, 7, 8, 14]) (k (t 14) (q (r [o (S 15) N (m (t 5)), o (S 2) N (m (t 15))] [2]) .ret) s)))) (r [o (S 16) N (.bin .add (t 8) (c (i I 1))), o (S 8) N (m (t 16))] [3, 6, 7, 8]))))))) (q (r [o (S 17) N (m (t 3)), o (S 2) N (m (t 17))] [2]) .ret))))⟩
theorem ok21 : compF Try.prog 21 hi21 = some ir21 := by kernel_rfl
def hi22 : List Hint := [.keep [0, 1], .keep [0, 1, 5], .keep [0, 1, 5, 6], .keep [0, 1, 6, 11], .keep [12], .keep [4], .keep [4], .keep [0, 1, 13], .keep [4], .keep [0, 1, 16], .keep [4], .keep [19], .keep [4], .keep [4]]
def ir22 : IFun := ⟨2, [.tmp 4], (q (r [o (S 4) N (m (c (i I 0)))] [0, 1]) (q (r [o (S 7) N (m (t 0)), y (S 8) N (.fn 27) [(t 7)], o (S 5) N (m (t 8))] [0, 1, 5]) (q (r [o (S 9) N (m (t 1)), y (S 10) N (.fn 27) [(t 9)], o (S 6) N (m (t 10))] [0, 1, 5, 6]) (q (q (r [o (S 11) N (m (t 5))] [0, 1, 6, 11]) (k (t 11) (q (q (r [o (S 12) N (m (t 6))] [12]) (k (t 12) (q (r [o (S 4) N (m (c (i I 0)))] [4]) .ret) s)) (q (r [o (S 4) N (m (c (i I (-1))))] [4]) .ret)) s)) (q (q (r [o (S 13) N (m (t 6))] [0, 1, 13]) (k (t 13) (q (r [o (S 4) N (m (c (i I 1)))] [4]) .ret) s)) (q (q (r [o (S 14) N (m (t 0)), o (S 15) N (m (t 1)), o (S 16) N (.bin .lss (t 14) (t 15))] [0, 1, 16]) (k (t 16) (q (r [o (S 4) N (m (c (i I (-1))))] [4]) .ret) s)) (q (q (r [o (S 17) N (m (t 0)), o (S 18) N (m (t 1)), o (S 19) N (.bin .gtr (t 17) (t 18))] [19]) (k (t 19) (q (r [o (S 4) N (m (c (i I 1)))] [4]) .ret) s)) (q (r [o (S 4) N (m (c (i I 0)))] [4]) .ret))))))))⟩
theorem ok22 : compF Try.prog 22 hi22 = some ir22 := by kernel_rfl
end Go.Proofs.Ytfcpokolbifilaa.IrAll
namespace Go.Proofs.Ytfcpokolbifilaa.IrAll
open Go Go.Proofs.Ytfcpokolbifilaa.Am
open Go.Operand renaming tmp → t, const → c
open Go.Value renaming int → i, string → g, bool → b
open Go.IntKind renaming i64 → I, u64 → U, u8 → B
open Option renaming some → S, none → N
open Go.Proofs.Ytfcpokolbifilaa.Am.Step renaming op → o, call → y
open Go.Proofs.Ytfcpokolbifilaa.Am.IOp renaming mov → m
open Go.Proofs.Ytfcpokolbifilaa.Am.IC renaming seq → q, cond → k, run → r, skip → s
def hi23 : List Hint := [.keep [0, 1], .keep [0, 1, 5], .keep [0, 1, 5, 6], .keep [0, 1, 6, 11], .keep [12], .keep [4], .keep [4], .keep [0, 1, 13], .keep [4], .keep [0, 1, 16], .keep [4], .keep [19], .keep [4], .keep [4]]
def ir23 : IFun := ⟨2, [.tmp 4], (q (r [o (S 4) N (m (c (i I 0)))] [0, 1]) (q (r [o (S 7) N (m (t 0)), y (S 8) N (.fn 28) [(t 7)], o (S 5) N (m (t 8))] [0, 1, 5]) (q (r [o (S 9) N (m (t 1)), y (S 10) N (.fn 28) [(t 9)], o (S 6) N (m (t 10))] [0, 1, 5, 6]) (q (q (r [o (S 11) N (m (t 5))] [0, 1, 6, 11]) (k (t 11) (q (q (r [o (S 12) N (m (t 6))] [12]) (k (t 12) (q (r [o (S 4) N (m (c (i I 0)))] [4]) .ret) s)) (q (r [o (S 4) N (m (c (i I (-1))))] [4]) .ret)) s)) (q (q (r [o (S 13) N (m (t 6))] [0, 1, 13]) (k (t 13) (q (r [o (S 4) N (m (c (i I 1)))] [4]) .ret) s)) (q (q (r [o (S 14) N (m (t 0)), o (S 15) N (m (t 1)), o (S 16) N (.bin .lss (t 14) (t 15))] [0, 1, 16]) (k (t 16) (q (r [o (S 4) N (m (c (i I (-1))))] [4]) .ret) s)) (q (q (r [o (S 17) N (m (t 0)), o (S 18) N (m (t 1)), o (S 19) N (.bin .gtr (t 17) (t 18))] [19]) (k (t 19) (q (r [o (S 4) N (m (c (i I 1)))] [4]) .ret) s)) (q (r [o (S 4) N (m (c (i I 0)))] [4]) .ret))))))))⟩
theorem ok23 : compF Try.prog 23 hi23 = some ir23 := by kernel_rfl
def hi24 : List Hint := [.keep [1], .keep [4], .keep [2], .keep [2]]
def ir24 : IFun := ⟨1, [.tmp 2], (q (r [o (S 1) N (.box (t 0)), o (S 2) N (m (c (i I 0)))] [1]) (q (q (r [o (S 3) N (.fa 3 (t 1)), o (S 4) N (.ld1 (t 3))] [4]) (k (t 4) (q (r [o (S 2) N (m (c (i I 1)))] [2]) .ret) s)) (q (r [o (S 2) N (m (c (i I 0)))] [2]) .ret)))⟩
theorem ok24 : compF Try.prog 24 hi24 = some ir24 := by kernel_rfl
def hi25 : List Hint := [.keep [0, 1, 2, 3, 8], .keep [0, 1, 2, 3, 8], .keep [0, 1, 2, 3, 8, 14], .keep [0, 1, 2, 3, 8, 9], .keep [0, 1, 2, 3, 8, 9], .draw [.op 0, .op 1, .op 2, .op 3, .op 4, .op 5, .op 6, .op 7, .op 8, .op 9, .op 10, .op 11, .op 12, .op 13, .op 14, .op 15, .op 16] [0, 1, 2, 3, 8, 9, 34], .draw [.op 0, .op 1, .op 2, .op 3, .op 4, .op 5, .op 6, .op 7, .op 8, .op 9, .op 10, .op 11, .op 12, .op 13, .op 14, .op 15, .op 16, .op 17] [0, 1, 2, 3, 8, 9], .keep [0, 1, 2, 3, 8, 9], .keep [0, 1, 2, 3, 8]]
def ir25 : IFun := ⟨4, [], (q (r [o (S 10) N (m (t 1)), o (S 11) N (.bin .add (t 10) (c (i I 1))), o (S 8) N (m (t 11))] [0, 1, 2, 3, 8]) (.block 0 (.loop [0, 1, 2, 3, 8] (q (q (r [o (S 12) N (m (t 8)), o (S 13) N (m (t 2)), o (S 14) N (.bin .lss (t 12) (t 13))] [0, 1, 2, 3, 8, 14]) (k (t 14) .skip (.exit 0))) (q (.block 1 (q (r [o (S 17) N (m (t 8)), o (S 9) N (m (t 17))] [0, 1, 2, 3, 8, 9]) (.block 2 (.loop [0, 1, 2, 3, 8, 9] (q (q (.draw 17 [o (S 18) N (m (t 9)), o (S 19) N (m (t 1)), o (S 20) N (.bin .gtr (t 18) (t 19)), o (S 21) N (m (t 20)), o (S 22) (S (21, true)) (m (t 3)), o (S 23) (S (21, true)) (m (t 0)), o (S 24) (S (21, true)) (m (t 9)), o (S 25) (S (21, true)) (.iaV 1 (t 23) (t 24)), o (S 26) (S (21, true)) (.ld1 (t 25)), o (S 27) (S (21, true)) (m (t 0)), o (S 28) (S (21, true)) (m (t 9)), o (S 29) (S (21, true)) (.bin .sub (t 28) (c (i I 1))), o (S 30) (S (21, true)) (.iaV 1 (t 27) (t 29)), o (S 31) (S (21, true)) (.ld1 (t 30)), y (S 32) (S (21, true)) (.val (t 22)) [(t 26), (t 31)], o (S 33) (S (21, true)) (.bin .lss (t 32) (c (i I 0))), o (S 34) N (.pick (t 21) (t 33) (c (b false)))] [0, 1, 2, 3, 8, 9, 34]) (k (t 34) .skip (.exit 2))) (q (.block 3 (.draw 18 [o (S 37) N (m (t 0)), o (S 38) N (m (t 9)), o (S 39) N (m (t 0)), o (S 40) N (m (t 9)), o (S 41) N (.bin .sub (t 40) (c (i I 1))), o (S 42) N (m (t 0)), o (S 43) N (m (t 9)), o (S 44) N (.bin .sub (t 43) (c (i I 1))), o (S 45) N (.iaV 1 (t 42) (t 44)), o (S 46) N (.ld1 (t 45)), o (S 47) N (m (t 0)), o (S 48) N (m (t 9)), o (S 49) N (.iaV 1 (t 47) (t 48)), o (S 50) N (.ld1 (t 49)), o (S 51) N (.iaV 1 (t 37) (t 38)), o N N (.st 1 (t 51) (t 46)), o (S 52) N (.iaV 1 (t 39) (t 41)), o N N (.st 1 (t 52) (t 50))] [0, 1, 2, 3, 8, 9])) (r [o (S 35) N (m (t 9)), o (S 36) N (.bin .sub (t 35) (c (i I 1))), o (S 9) N (m (t 36))] [0, 1, 2, 3, 8, 9]))))))) (r [o (S 15) N (m (t 8)), o (S 16) N (.bin .add (t 15) (c (i I 1))), o (S 8) N (m (t 16))] [0, 1, 2, 3, 8]))))))⟩
theorem ok25 : compF Try.prog 25 hi25 = some ir25 := by kernel_rfl
def hi26 : List Hint := [.keep [0, 1, 2, 3, 4, 28], .keep [0, 1, 3, 4, 10], .keep [0, 1, 4, 10, 11], .keep [0, 1, 4, 10, 11], .keep [0, 1, 4, 10, 11, 33], .keep [0, 1, 4, 10, 11, 12], .draw [.op 0, .op 1, .op 2, .op 3, .op 4, .op 5, .op 6, .op 7, .op 8, .op 9, .op 10] [0, 1, 4, 10, 11, 12, 50], .keep [0, 1, 4, 10, 11], .keep [0, 1, 4, 10, 11], .keep [0, 10, 13], .keep [0, 10, 13], .keep [0, 10, 13, 58], .draw [.op 0, .op 1, .op 2, .op 3, .op 4, .op 5, .op 6, .op 7, .op 8, .op 9, .op 10, .op 11, .op 12, .op 13, .op 14, .op 15, .op 16, .op 17] [0, 10, 13], .keep [0, 10, 13], .keep [0, 1, 2, 3, 4, 80], .keep [0, 2, 4, 14], .keep [0, 2, 4, 14, 15], .keep [0, 2, 4, 14, 15], .keep [0, 2, 4, 14, 15, 85], .keep [0, 2, 4, 14, 15, 16], .draw [.op 0, .op 1, .op 2, .op 3, .op 4, .op 5, .op 6, .op 7, .op 8, .op 9, .op 10, .op 11] [0, 2, 4, 14, 15, 16, 103], .keep [0, 2, 4, 14, 15], .keep [0, 2, 4, 14, 15], .keep [0, 14, 17], .keep [0, 14, 17], .keep [0, 14, 17, 110], .draw [.op 0, .op 1, .op 2, .op 3, .op 4, .op 5, .op 6, .op 7, .op 8, .op 9, .op 10, .op 11, .op 12, .op 13, .op 14, .op 15, .op 16, .op 17] [0, 14, 17], .keep [0, 14, 17], .keep [0, 1, 2, 3, 4, 18], .keep [0, 1, 2, 3, 4, 18, 19], .keep [0, 1, 2, 3, 4, 18, 19], .keep [0, 1, 2, 3, 4, 18, 19, 140], .keep [0, 1, 2, 3, 4, 18, 19, 20], .keep [0, 1, 2, 3, 4, 18, 19, 20, 21], .keep [0, 1, 2, 3, 4, 18, 19, 20], .keep [0, 1, 2, 3, 4, 18, 19, 20, 21], .keep [0, 1, 2, 3, 4, 18, 19, 20, 21, 22], .keep [0, 1, 2, 3, 4, 18, 19, 20, 21, 22], .keep [0, 1, 2, 3, 4, 18, 19, 20, 21, 22, 151], .keep [0, 1, 2, 3, 4, 18, 19, 20, 21, 22, 23], .draw [.op 0, .op 1, .op 2, .op 3, .op 4, .op 5, .op 6, .op 7, .op 8, .op 9, .op 10, .op 11, .op 12, .op 13] [0, 1, 2, 3, 4, 18, 19, 20, 21, 22, 23, 171], .keep [0, 1, 2, 3, 4, 18, 19, 20, 21, 22], .keep [0, 1, 2, 3, 4, 18, 19, 20, 21, 22], .keep [0, 1, 2, 3, 4, 18, 20, 24], .keep [0, 1, 2, 3, 4, 18, 20, 24, 185], .keep [0, 1, 3, 4, 18, 20, 24], .keep [0, 1, 3, 4, 18, 20, 24, 199], .keep [0, 3, 4, 18, 24], .keep [0, 3, 4, 18, 24, 213], .keep []]
def ir26 : IFun := ⟨5, [], (q (q (r [o (S 25) N (m (t 2)), o (S 26) N (m (t 1)), o (S 27) N (.bin .sub (t 25) (t 26)), o (S 28) N (.bin .eql (t 27) (c (i I 1)))] [0, 1, 2, 3, 4, 28]) (k (t 28) (q (r [o (S 29) N (m (t 2)), o (S 10) N (m (t 29))] [0, 1, 3, 4, 10]) (q (r [o (S 30) N (m (t 3)), o (S 11) N (m (t 30))] [0, 1, 4, 10, 11]) (q (.block 0 (.loop [0, 1, 4, 10, 11] (q (q (r [o (S 31) N (m (t 10)), o (S 32) N (m (t 11)), o (S 33) N (.bin .lss (t 31) (t 32))] [0, 1, 4, 10, 11, 33]) (k (t 33) .skip (.exit 0))) (.block 1 (q (r [o (S 34) N (m (t 10)), o (S 35) N (m (t 11)), o (S 36) N (.bin .add (t 34) (t 35)), o (S 37) N (.cvI .u64 (t 36)), o (S 38) N (.bin .shr (t 37) (c (i U 1))), o (S 39) N (.cvI .i64 (t 38)), o (S 12) N (m (t 39))] [0, 1, 4, 10, 11, 12]) (q (.draw 11 [o (S 40) N (m (t 4)), o (S 41) N (m (t 0)), o (S 42) N (m (t 12)), o (S 43) N (.iaV 1 (t 41) (t 42)), o (S 44) N (.ld1 (t 43)), o (S 45) N (m (t 0)), o (S 46) N (m (t 1)), o (S 47) N (.iaV 1 (t 45) (t 46)), o (S 48) N (.ld1 (t 47)), y (S 49) N (.val (t 40)) [(t 44), (t 48)], o (S 50) N (.bin .lss (t 49) (c (i I 0)))] [0, 1, 4, 10, 11, 12, 50]) (k (t 50) (r [o (S 51) N (m (t 12)), o (S 52) N (.bin .add (t 51) (c (i I 1))), o (S 10) N (m (t 52))] [0, 1, 4, 10, 11]) (r [o (S 53) N (m (t 12)), o (S 11) N (m (t 53))] [0, 1, 4, 10, 11])))))))) (q (q (r [o (S 54) N (m (t 1)), o (S 13) N (m (t 54))] [0, 10, 13]) (.block 2 (.loop [0, 10, 13] (q (q (r [o (S 55) N (m (t 13)), o (S 56) N (m (t 10)), o (S 57) N (.bin .sub (t 56) (c (i I 1))), o (S 58) N (.bin .lss (t 55) (t 57))] [0, 10, 13, 58]) (k (t 58) .skip (.exit 2))) (q (.block 3 (.draw 18 [o (S 61) N (m (t 0)), o (S 62) N (m (t 13)), o (S 63) N (m (t 0)), o (S 64) N (m (t 13)), o (S 65) N (.bin .add (t 64) (c (i I 1))), o (S 66) N (m (t 0)), o (S 67) N (m (t 13)), o (S 68) N (.bin .add (t 67) (c (i I 1))), o (S 69) N (.iaV 1 (t 66) (t 68)), o (S 70) N (.ld1 (t 69)), o (S 71) N (m (t 0)), o (S 72) N (m (t 13)), o (S 73) N (.iaV 1 (t 71) (t 72)), o (S 74) N (.ld1 (t 73)), o (S 75) N (.iaV 1 (t 61) (t 62)), o N N (.st 1 (t 75) (t 70)), o (S 76) N (.iaV 1 (t 63) (t 65)), o N N (.st 1 (t 76) (t 74))] [0, 10, 13])) (r [o (S 59) N (m (t 13)), o (S 60) N (.bin .add (t 59) (c (i I 1))), o (S 13) N (m (t 60))] [0, 10, 13])))))) .ret)))) s)) (q (q (r [o (S 77) N (m (t 3)), o (S 78) N (m (t 2)), o (S 79) N (.bin .sub (t 77) (t 78)), o (S 80) N (.bin .eql (t 79) (c (i I 1)))] [0, 1, 2, 3, 4, 80]) (k (t 80) (q (r [o (S 81) N (m (t 1)), o (S 14) N (m (t 81))] [0, 2, 4, 14]) (q (r [o (S 82) N (m (t 2)), o (S 15) N (m (t 82))] [0, 2, 4, 14, 15]) (q (.block 4 (.loop [0, 2, 4, 14, 15] (q (q (r [o (S 83) N (m (t 14)), o (S 84) N (m (t 15)), o (S 85) N (.bin .lss (t 83) (t 84))] [0, 2, 4, 14, 15, 85]) (k (t 85) .skip (.exit 4))) (.block 5 (q (r [o (S 86) N (m (t 14)), o (S 87) N (m (t 15)), o (S 88) N (.bin .add (t 86) (t 87)), o (S 89) N (.cvI .u64 (t 88)), o (S 90) N (.bin .shr (t 89) (c (i U 1))), o (S 91) N (.cvI .i64 (t 90)), o (S 16) N (m (t 91))] [0, 2, 4, 14, 15, 16]) (q (.draw 12 [o (S 92) N (m (t 4)), o (S 93) N (m (t 0)), o (S 94) N (m (t 2)), o (S 95) N (.iaV 1 (t 93) (t 94)), o (S 96) N (.ld1 (t 95)), o (S 97) N (m (t 0)), o (S 98) N (m (t 16)), o (S 99) N (.iaV 1 (t 97) (t 98)), o (S 100) N (.ld1 (t 99)), y (S 101) N (.val (t 92)) [(t 96), (t 100)], o (S 102) N (.bin .lss (t 101) (c (i I 0))), o (S 103) N (.un .not (t 102))] [0, 2, 4, 14, 15, 16, 103]) (k (t 103) (r [o (S 104) N (m (t 16)), o (S 105) N (.bin .add (t 104) (c (i I 1))), o (S 14) N (m (t 105))] [0, 2, 4, 14, 15]) (r [o (S 106) N (m (t 16)), o (S 15) N (m (t 106))] [0, 2, 4, 14, 15])))))))) (q (q (r [o (S 107) N (m (t 2)), o (S 17) N (m (t 107))] [0, 14, 17]) (.block 6 (.loop [0, 14, 17] (q (q (r [o (S 108) N (m (t 17)), o (S 109) N (m (t 14)), o (S 110) N (.bin .gtr (t 108) (t 109))] [0, 14, 17, 110]) (k (t 110) .skip (.exit 6))) (q (.block 7 (.draw 18 [o (S 113) N (m (t 0)), o (S 114) N (m (t 17)), o (S 115) N (m (t 0)), o (S 116) N (m (t 17)), o (S 117) N (.bin .sub (t 116) (c (i I 1))), o (S 118) N (m (t 0)), o (S 119) N (m (t 17)), o (S 120) N (.bin .sub (t 119) (c (i I 1))), o (S 121) N (.iaV 1 (t 118) (t 120)), o (S 122) N (.ld1 (t 121)), o (S 123) N (m (t 0)), o (S 124) N (m (t 17)), o (S 125) N (.iaV 1 (t 123) (t 124)), o (S 126) N (.ld1 (t 125)), o (S 127) N (.iaV 1 (t 113) (t 114)), o N N (.st 1 (t 127) (t 122)), o (S 128) N (.iaV 1 (t 115) (t 117)), o N N (.st 1 (t 128) (t 126))] [0, 14, 17])) (r [o (S 111) N (m (t 17)), o (S 112) N (.bin .sub (t 111) (c (i I 1))), o (S 17) N (m (t 112))] [0, 14, 17])))))) .ret)))) s)) (q (r [o (S 129) N (m (t 1)), o (S 130) N (m (t 3)), o (S 131) N (.bin .add (t 129) (t 130)), o (S 132) N (.cvI .u64 (t 131)), o (S 133) N (.bin .shr (t 132) (c (i U 1))), o (S 134) N (.cvI .i64 (t 133)), o (S 18) N (m (t 134))] [0, 1, 2, 3, 4, 18]) (q (r [o (S 135) N (m (t 18)), o (S 136) N (m (t 2)), o (S 137) N (.bin .add (t 135) (t 136)), o (S 19) N (m (t 137))] [0, 1, 2, 3, 4, 18, 19]) (q (r [o (S 20) N (m (c (i I 0))), o (S 21) N (m (c (i I 0)))] [0, 1, 2, 3, 4, 18, 19]) (q (q (r [o (S 138) N (m (t 2)), o (S 139) N (m (t 18)), o (S 140) N (.bin .gtr (t 138) (t 139))] [0, 1, 2, 3, 4, 18, 19, 140]) (k (t 140) (q (r [o (S 141) N (m (t 19)), o (S 142) N (m (t 3)), o (S 143) N (.bin .sub (t 141) (t 142)), o (S 20) N (m (t 143))] [0, 1, 2, 3, 4, 18, 19, 20]) (r [o (S 144) N (m (t 18)), o (S 21) N (m (t 144))] [0, 1, 2, 3, 4, 18, 19, 20, 21])) (q (r [o (S 145) N (m (t 1)), o (S 20) N (m (t 145))] [0, 1, 2, 3, 4, 18, 19, 20]) (r [o (S 146) N (m (t 2)), o (S 21) N (m (t 146))] [0, 1, 2, 3, 4, 18, 19, 20, 21])))) (q (r [o (S 147) N (m (t 19)), o (S 148) N (.bin .sub (t 147) (c (i I 1))), o (S 22) N (m (t 148))] [0, 1, 2, 3, 4, 18, 19, 20, 21, 22]) (q (.block 8 (.loop [0, 1, 2, 3, 4, 18, 19, 20, 21, 22] (q (q (r [o (S 149) N (m (t 20)), o (S 150) N (m (t 21)), o (S 151) N (.bin .lss (t 149) (t 150))] [0, 1, 2, 3, 4, 18, 19, 20, 21, 22, 151]) (k (t 151) .skip (.exit 8))) (.block 9 (q (r [o (S 152) N (m (t 20)), o (S 153) N (m (t 21)), o (S 154) N (.bin .add (t 152) (t 153)), o (S 155) N (.cvI .u64 (t 154)), o (S 156) N (.bin .shr (t 155) (c (i U 1))), o (S 157) N (.cvI .i64 (t 156)), o (S 23) N (m (t 157))] [0, 1, 2, 3, 4, 18, 19, 20, 21, 22, 23]) (q (.draw 14 [o (S 158) N (m (t 4)), o (S 159) N (m (t 0)), o (S 160) N (m (t 22)), o (S 161) N (m (t 23)), o (S 162) N (.bin .sub (t 160) (t 161)), o (S 163) N (.iaV 1 (t 159) (t 162)), o (S 164) N (.ld1 (t 163)), o (S 165) N (m (t 0)), o (S 166) N (m (t 23)), o (S 167) N (.iaV 1 (t 165) (t 166)), o (S 168) N (.ld1 (t 167)), y (S 169) N (.val (t 158)) [(t 164), (t 168)], o (S 170) N (.bin .lss (t 169) (c (i I 0))), o (S 171) N (.un .not (t 170))] [0, 1, 2, 3, 4, 18, 19, 20, 21, 22, 23, 171]) (k (t 171) (r [o (S 172) N (m (t 23)), o (S 173) N (.bin .add (t 172) (c (i I 1))), o (S 20) N (m (t 173))] [0, 1, 2, 3, 4, 18, 19, 20, 21, 22]) (r [o (S 174) N (m (t 23)), o (S 21) N (m (t 174))] [0, 1, 2, 3, 4, 18, 19, 20, 21, 22])))))))) (q (r [o (S 175) N (m (t 19)), o (S 176) N (m (t 20)), o (S 177) N (.bin .sub (t 175) (t 176)), o (S 24) N (m (t 177))] [0, 1, 2, 3, 4, 18, 20, 24]) (q (q (r [o (S 178) N (m (t 20)), o (S 179) N (m (t 2)), o (S 180) N (.bin .lss (t 178) (t 179)), o (S 181) N (m (t 180)), o (S 182) (S (181, true)) (m (t 2)), o (S 183) (S (181, true)) (m (t 24)), o (S 184) (S (181, true)) (.bin .lss (t 182) (t 183)), o (S 185) N (.pick (t 181) (t 184) (c (b false)))] [0, 1, 2, 3, 4, 18, 20, 24, 185]) (k (t 185) (r [o (S 186) N (m (t 0)), o (S 187) N (m (t 20)), o (S 188) N (m (t 2)), o (S 189) N (m (t 24)), o (S 190) N (m (t 4)), y (S 191) N (.fn 29) [(t 186), (t 187), (t 188), (t 189), (t 190)]] [0, 1, 3, 4, 18, 20, 24]) s)) (q (q (r [o (S 192) N (m (t 1)), o (S 193) N (m (t 20)), o (S 194) N (.bin .lss (t 192) (t 193)), o (S 195) N (m (t 194)), o (S 196) (S (195, true)) (m (t 20)), o (S 197) (S (195, true)) (m (t 18)), o (S 198) (S (195, true)) (.bin .lss (t 196) (t 197)), o (S 199) N (.pick (t 195) (t 198) (c (b false)))] [0, 1, 3, 4, 18, 20, 24, 199]) (k (t 199) (r [o (S 200) N (m (t 0)), o (S 201) N (m (t 1)), o (S 202) N (m (t 20)), o (S 203) N (m (t 18)), o (S 204) N (m (t 4)), y (S 205) N (.fn 26) [(t 200), (t 201), (t 202), (t 203), (t 204)]] [0, 3, 4, 18, 24]) s)) (q (r [o (S 206) N (m (t 18)), o (S 207) N (m (t 24)), o (S 208) N (.bin .lss (t 206) (t 207)), o (S 209) N (m (t 208)), o (S 210) (S (209, true)) (m (t 24)), o (S 211) (S (209, true)) (m (t 3)), o (S 212) (S (209, true)) (.bin .lss (t 210) (t 211)), o (S 213) N (.pick (t 209) (t 212) (c (b false)))] [0, 3, 4, 18, 24, 213]) (k (t 213) (r [o (S 214) N (m (t 0)), o (S 215) N (m (t 18)), o (S 216) N (m (t 24)), o (S 217) N (m (t 3)), o (S 218) N (m (t 4)), y (S 219) N (.fn 26) [(t 214), (t 215), (t 216), (t 217), (t 218)]] []) s)))))))))))))⟩
theorem ok26 : compF Try.prog 26 hi26 = some ir26 := by kernel_rfl
def hi27 : List Hint := [.keep [0], .keep [2]]
def ir27 : IFun := ⟨1, [.tmp 2], (q (r [o (S 2) N (m (c (b false)))] [0]) (q (r [o (S 3) N (m (t 0)), o (S 4) N (m (t 0)), o (S 5) N (.bin .neq (t 3) (t 4)), o (S 2) N (m (t 5))] [2]) .ret))⟩
theorem ok27 : compF Try.prog 27 hi27 = some ir27 := by kernel_rfl
def hi28 : List Hint := [.keep [0], .keep [2]]
def ir28 : IFun := ⟨1, [.tmp 2], (q (r [o (S 2) N (m (c (b false)))] [0]) (q (r [o (S 3) N (m (t 0)), o (S 4) N (m (t 0)), o (S 5) N (.bin .neq (t 3) (t 4)), o (S 2) N (m (t 5))] [2]) .ret))⟩
theorem ok28 : compF Try.prog 28 hi28 = some ir28 := by kernel_rfl
def hi29 : List Hint := [.keep [0, 2, 3, 4, 10], .keep [0, 2, 4, 10, 11], .keep [0, 2, 4, 10, 11], .keep [0, 2, 4, 10, 11, 20], .keep [0, 2, 4, 10, 11, 23], .keep [0, 2, 4, 10, 11], .keep [0, 2, 4, 10, 11], .keep [0, 2, 4, 10, 11], .keep [0, 2, 4, 10, 11], .keep []]
def ir29 : IFun := ⟨5, [], (q (r [o (S 12) N (m (t 2)), o (S 13) N (m (t 1)), o (S 14) N (.bin .sub (t 12) (t 13)), o (S 10) N (m (t 14))] [0, 2, 3, 4, 10]) (q (r [o (S 15) N (m (t 3)), o (S 16) N (m (t 2)), o (S 17) N (.bin .sub (t 15) (t 16)), o (S 11) N (m (t 17))] [0, 2, 4, 10, 11]) (q (.block 0 (.loop [0, 2, 4, 10, 11] (q (q (r [o (S 18) N (m (t 10)), o (S 19) N (m (t 11)), o (S 20) N (.bin .neq (t 18) (t 19))] [0, 2, 4, 10, 11, 20]) (k (t 20) .skip (.exit 0))) (.block 1 (q (r [o (S 21) N (m (t 10)), o (S 22) N (m (t 11)), o (S 23) N (.bin .gtr (t 21) (t 22))] [0, 2, 4, 10, 11, 23]) (k (t 23) (q (r [o (S 24) N (m (t 0)), o (S 25) N (m (t 2)), o (S 26) N (m (t 10)), o (S 27) N (.bin .sub (t 25) (t 26)), o (S 28) N (m (t 2)), o (S 29) N (m (t 11)), o (S 30) N (m (t 4)), y (S 31) N (.fn 30) [(t 24), (t 27), (t 28), (t 29), (t 30)]] [0, 2, 4, 10, 11]) (r [o (S 32) N (m (t 10)), o (S 33) N (m (t 11)), o (S 34) N (.bin .sub (t 32) (t 33)), o (S 10) N (m (t 34))] [0, 2, 4, 10, 11])) (q (r [o (S 35) N (m (t 0)), o (S 36) N (m (t 2)), o (S 37) N (m (t 10)), o (S 38) N (.bin .sub (t 36) (t 37)), o (S 39) N (m (t 2)), o (S 40) N (m (t 11)), o (S 41) N (.bin .add (t 39) (t 40)), o (S 42) N (m (t 10)), o (S 43) N (.bin .sub (t 41) (t 42)), o (S 44) N (m (t 10)), o (S 45) N (m (t 4)), y (S 46) N (.fn 30) [(t 35), (t 38), (t 43), (t 44), (t 45)]] [0, 2, 4, 10, 11]) (r [o (S 47) N (m (t 11)), o (S 48) N (m (t 10)), o (S 49) N (.bin .sub (t 47) (t 48)), o (S 11) N (m (t 49))] [0, 2, 4, 10, 11])))))))) (r [o (S 50) N (m (t 0)), o (S 51) N (m (t 2)), o (S 52) N (m (t 10)), o (S 53) N (.bin .sub (t 51) (t 52)), o (S 54) N (m (t 2)), o (S 55) N (m (t 10)), o (S 56) N (m (t 4)), y (S 57) N (.fn 30) [(t 50), (t 53), (t 54), (t 55), (t 56)]] []))))⟩
theorem ok29 : compF Try.prog 29 hi29 = some ir29 := by kernel_rfl
def hi30 : List Hint := [.keep [0, 1, 2, 3, 10], .keep [0, 1, 2, 3, 10], .keep [0, 1, 2, 3, 10, 13], .draw [.op 0, .op 1, .op 2, .op 3, .op 4, .op 5, .op 6, .op 7, .op 8, .op 9, .op 10, .op 11, .op 12, .op 13, .op 14, .op 15, .op 16, .op 17, .op 18, .op 19, .op 20, .op 21, .op 22, .op 23] [0, 1, 2, 3, 10], .keep [0, 1, 2, 3, 10]]
def ir30 : IFun := ⟨5, [], (q (r [o (S 10) N (m (c (i I 0)))] [0, 1, 2, 3, 10]) (.block 0 (.loop [0, 1, 2, 3, 10] (q (q (r [o (S 11) N (m (t 10)), o (S 12) N (m (t 3)), o (S 13) N (.bin .lss (t 11) (t 12))] [0, 1, 2, 3, 10, 13]) (k (t 13) .skip (.exit 0))) (q (.block 1 (.draw 24 [o (S 16) N (m (t 0)), o (S 17) N (m (t 1)), o (S 18) N (m (t 10)), o (S 19) N (.bin .add (t 17) (t 18)), o (S 20) N (m (t 0)), o (S 21) N (m (t 2)), o (S 22) N (m (t 10)), o (S 23) N (.bin .add (t 21) (t 22)), o (S 24) N (m (t 0)), o (S 25) N (m (t 2)), o (S 26) N (m (t 10)), o (S 27) N (.bin .add (t 25) (t 26)), o (S 28) N (.iaV 1 (t 24) (t 27)), o (S 29) N (.ld1 (t 28)), o (S 30) N (m (t 0)), o (S 31) N (m (t 1)), o (S 32) N (m (t 10)), o (S 33) N (.bin .add (t 31) (t 32)), o (S 34) N (.iaV 1 (t 30) (t 33)), o (S 35) N (.ld1 (t 34)), o (S 36) N (.iaV 1 (t 16) (t 19)), o N N (.st 1 (t 36) (t 29)), o (S 37) N (.iaV 1 (t 20) (t 23)), o N N (.st 1 (t 37) (t 35))] [0, 1, 2, 3, 10])) (r [o (S 14) N (m (t 10)), o (S 15) N (.bin .add (t 14) (c (i I 1))), o (S 10) N (m (t 15))] [0, 1, 2, 3, 10]))))))⟩
theorem ok30 : compF Try.prog 30 hi30 = some ir30 := by kernel_rfl
end Go.Proofs.Ytfcpokolbifilaa.IrAll
namespace Go.Proofs.Ytfcpokolbifilaa.IrAll
open Go Go.Proofs.Ytfcpokolbifilaa.Am
def tabC : Nat → Option FD
  | 5 => some (.code ir5)
  | 7 => some (.code ir7)
  | 9 => some (.code ir9)
  | 11 => some (.code ir11)
  | 13 => some (.code ir13)
  | 15 => some (.code ir15)
  | 16 => some (.code ir16)
  | 17 => some (.code ir17)
  | 18 => some (.code ir18)
  | 19 => some (.code ir19)
  | 20 => some (.code ir20)
  | 21 => some (.code ir21)
  | 22 => some (.code ir22)
  | 23 => some (.code ir23)
  | 24 => some (.code ir24)
  | 25 => some (.code ir25)
  | 26 => some (.code ir26)
  | 27 => some (.code ir27)
  | 28 => some (.code ir28)
  | 29 => some (.code ir29)
  | 30 => some (.code ir30)
  | _ => none
theorem tabCOK : TabOK Try.prog tabC := by
  intro f d h
  unfold tabC at h
  split at h
  · cases h; exact ⟨hi5, ok5⟩
  · cases h; exact ⟨hi7, ok7⟩
  · cases h; exact ⟨hi9, ok9⟩
  · cases h; exact ⟨hi11, ok11⟩
  · cases h; exact ⟨hi13, ok13⟩
  · cases h; exact ⟨hi15, ok15⟩
  · cases h; exact ⟨hi16, ok16⟩
  · cases h; exact ⟨hi17, ok17⟩
  · cases h; exact ⟨hi18, ok18⟩
  · cases h; exact ⟨hi19, ok19⟩
  · cases h; exact ⟨hi20, ok20⟩
  · cases h; exact ⟨hi21, ok21⟩
  · cases h; exact ⟨hi22, ok22⟩
  · cases h; exact ⟨hi23, ok23⟩
  · cases h; exact ⟨hi24, ok24⟩
  · cases h; exact ⟨hi25, ok25⟩
  · cases h; exact ⟨hi26, ok26⟩
  · cases h; exact ⟨hi27, ok27⟩
  · cases h; exact ⟨hi28, ok28⟩
  · cases h; exact ⟨hi29, ok29⟩
  · cases h; exact ⟨hi30, ok30⟩
  · cases h
theorem mixed : Try.prog.follows .mixedOrders = true := by kernel_rfl
theorem dOK : DrawOK Try.prog := drawOK mixed
def isT : Option (Value × H) → Bool
  | some (.bool true, _) => true
  | _ => false
theorem isT_some {x : Option (Value × H)} (h : isT x = true) : ∃ h2, x = some (.bool true, h2) := by
  unfold isT at h
  split at h
  · exact ⟨_, rfl⟩
  · cases h
theorem awakeRan : isT (runE tabC 4000 7 [] ⟨.leaf, 0⟩) = true := by decide +kernel
def gAw : List Value → H → Option (Value × H) := fun us h => if us = [] then some (.bool true, h) else none
theorem sAw : SoundF Try.prog 7 gAw := by
  obtain ⟨h2, hr⟩ := isT_some awakeRan
  exact SoundF.closed dOK tabCOK (v := .bool true) rfl ⟨4000, hr⟩
def tab0 : Nat → Option FD := fun f => if f = 7 then some (.spec gAw) else tabC f
theorem tab0OK : TabOK Try.prog tab0 := by
  intro f d h
  unfold tab0 at h
  split at h
  · rename_i e; subst e; cases h; exact sAw
  · exact tabCOK f d h
theorem awake_run (h : H) : Ran tab0 7 [] h (.bool true) h := Ran.spec (g := gAw) rfl rfl
end Go.Proofs.Ytfcpokolbifilaa.IrAll
namespace Go.Proofs.Ytfcpokolbifilaa.Am
open Go
set_option linter.unusedVariables false
set_option linter.unusedSimpArgs false
abbrev Seg := List (Nat × Blk)
structure Mem (base h : H) (L : List Seg) (R : List Nat) : Prop where
  wf : ∀ n B, h.get n = some B → n < h.next
  nx : base.next ≤ h.next
  sub : ∀ n B, base.get n = some B → h.get n = some B
  no : ∀ n, n < base.next → base.get n = none → h.get n = none
  own : ∀ p ∈ L.flatten, h.get p.1 = some p.2 ∧ base.next ≤ p.1 ∧ base.get p.1 = none
  nd : (L.flatten.map Prod.fst).Nodup
  res : ∀ n ∈ R, base.next ≤ n ∧ n < h.next ∧ h.get n = none
  rnd : R.Nodup
variable {base h h1 h2 h3 : H} {L L' : List Seg} {R : List Nat} {S : Seg}
theorem Mem.start (wf : ∀ n B, h.get n = some B → n < h.next) : Mem h h [] [] :=
  ⟨wf, Nat.le_refl _, fun _ _ e => e, fun _ _ e => e, fun p hp => by simp at hp, by simp, fun n hn => by simp at hn, by simp⟩
theorem Mem.here (M : Mem base h L R) : Mem h h [] [] := .start M.wf
theorem Mem.bare (M : Mem base h L R) : Mem base h L [] := ⟨M.wf, M.nx, M.sub, M.no, M.own, M.nd, fun n hn => by simp at hn, by simp⟩
theorem Mem.trans (M : Mem base h L R) (N : Mem h h2 L' []) : Mem base h2 (L' ++ L) R := by
  refine ⟨N.wf, Nat.le_trans M.nx N.nx, fun n B e => N.sub n B (M.sub n B e), fun n hn e => N.no n (Nat.lt_of_lt_of_le hn M.nx) (M.no n hn e), fun p hp => ?_, ?_, fun n hn => ?_, M.rnd⟩
  · rw [List.flatten_append, List.mem_append] at hp
    rcases hp with hp | hp
    · obtain ⟨a, b, c⟩ := N.own p hp
      refine ⟨a, Nat.le_trans M.nx b, ?_⟩
      cases e : base.get p.1 with
      | none => rfl
      | some B => have := M.wf _ _ (M.sub _ _ e); omega
    · obtain ⟨a, b, c⟩ := M.own p hp
      exact ⟨N.sub _ _ a, b, c⟩
  · rw [List.flatten_append, List.map_append, List.nodup_append]
    refine ⟨N.nd, M.nd, fun a ha b hb => ?_⟩
    obtain ⟨p, hp, rfl⟩ := List.mem_map.1 ha
    obtain ⟨q, hq, rfl⟩ := List.mem_map.1 hb
    have := (N.own p hp).2.1
    have := M.wf _ _ (M.own q hq).1
    omega
  · obtain ⟨a, b, c⟩ := M.res n hn
    exact ⟨a, Nat.lt_of_lt_of_le b N.nx, N.no n b c⟩
theorem Mem.drop (M : Mem base h (S :: L) R) : Mem base h L R :=
  ⟨M.wf, M.nx, M.sub, M.no, fun p hp => M.own p (by simp only [List.flatten_cons, List.mem_append]; exact .inr hp), by have := M.nd; rw [List.flatten_cons, List.map_append, List.nodup_append] at this; exact this.2.1, M.res, M.rnd⟩
theorem Mem.perm {L2 : List Seg} (M : Mem base h L R) (p : L2.flatten.Perm L.flatten) : Mem base h L2 R :=
  ⟨M.wf, M.nx, M.sub, M.no, fun q hq => M.own q (p.mem_iff.1 hq), (p.map Prod.fst).nodup_iff.2 M.nd, M.res, M.rnd⟩
theorem flatten_erase : ∀ {L : List Seg} {i : Nat}, L[i]? = some S → (S :: L.eraseIdx i).flatten.Perm L.flatten := by
  intro L
  induction L with
  | nil => intro i h; simp at h
  | cons T L ih =>
    intro i h
    cases i with
    | zero => simp at h; subst h; exact List.Perm.refl _
    | succ i =>
      simp at h
      have := ih h
      simp only [List.eraseIdx_cons_succ, List.flatten_cons] at this ⊢
      refine (List.Perm.trans ?_ (List.Perm.append_left T this))
      rw [← List.append_assoc, ← List.append_assoc]
      exact List.Perm.append_right _ List.perm_append_comm
theorem Mem.focus (M : Mem base h L R) (i : Nat) (hi : L[i]? = some S) : Mem base h (S :: L.eraseIdx i) R := M.perm (flatten_erase hi)
theorem Mem.nils (M : Mem base h L R) : Mem base h ([] :: L) R := M.perm (by simp)
theorem mem_flatten {p : Nat × Blk} {i : Nat} (hi : L[i]? = some S) (hp : p ∈ S) : p ∈ L.flatten := List.mem_flatten.2 ⟨S, List.mem_of_getElem? hi, hp⟩
theorem Mem.at {p : Nat} {B : Blk} (M : Mem base h L R) (i : Nat) (hi : L[i]? = some [(p, B)]) : h.get p = some B := (M.own (p, B) (mem_flatten hi (List.mem_singleton.2 rfl))).1
theorem Mem.alloc (M : Mem base h L R) (B : Blk) : Mem base (h.alloc B) ([(h.next, B)] :: L) R := by
  have hn : h.get h.next = none := by
    cases e : h.get h.next with
    | none => rfl
    | some B => have := M.wf _ _ e; omega
  have hb : base.get h.next = none := by
    cases e : base.get h.next with
    | none => rfl
    | some B => rw [M.sub _ _ e] at hn; cases hn
  refine ⟨fun n B' e => ?_, Nat.le_trans M.nx (Nat.le_succ _), fun n B' e => ?_, fun n hn2 e => ?_, fun p hp => ?_, ?_, fun n hn2 => ?_, M.rnd⟩
  · rw [H.get_alloc] at e; show n < h.next + 1
    split at e
    · omega
    · have := M.wf _ _ e; omega
  · exact H.get_old (M.wf _ _ (M.sub _ _ e)) (M.sub _ _ e)
  · rw [H.get_alloc]; have := M.nx
    rw [if_neg (by omega)]; exact M.no n hn2 e
  · rw [List.flatten_cons, List.mem_append] at hp
    rcases hp with hp | hp
    · rw [List.mem_singleton] at hp; subst hp
      exact ⟨H.get_new .., M.nx, hb⟩
    · obtain ⟨a, b, c⟩ := M.own p hp
      exact ⟨H.get_old (M.wf _ _ a) a, b, c⟩
  · rw [List.flatten_cons, List.map_append, List.nodup_append]
    refine ⟨by simp, M.nd, fun a ha b hb => ?_⟩
    simp at ha; subst ha
    obtain ⟨q, hq, rfl⟩ := List.mem_map.1 hb
    have := M.wf _ _ (M.own q hq).1
    omega
  · obtain ⟨a, b, c⟩ := M.res n hn2
    refine ⟨a, Nat.lt_succ_of_lt b, ?_⟩
    rw [H.get_alloc, if_neg (by omega)]; exact c
theorem nodup_reserve {rb : Nat} {ks : List Nat} (h : ks.Nodup) : (ks.map (rb + ·)).Nodup := by
  induction ks with
  | nil => simp
  | cons k ks ih =>
    rw [List.nodup_cons] at h
    rw [List.map_cons, List.nodup_cons]
    refine ⟨fun q => h.1 ?_, ih h.2⟩
    obtain ⟨j, hj, e⟩ := List.mem_map.1 q
    have : j = k := by omega
    subst this; exact hj
theorem Mem.up (M : Mem base h L []) {m : Nat} {ks : List Nat} (hk : (decide (ks.Nodup) && ks.all (fun k => decide (k < m))) = true) : Mem base (h.up m) L (ks.map (h.next + ·)) := by
  rw [Bool.and_eq_true] at hk
  refine ⟨fun n B e => Nat.lt_of_lt_of_le (M.wf n B e) (Nat.le_add_right _ _), Nat.le_trans M.nx (Nat.le_add_right _ _), M.sub, M.no, M.own, M.nd, fun n hn => ?_, nodup_reserve (of_decide_eq_true hk.1)⟩
  obtain ⟨k, hk1, rfl⟩ := List.mem_map.1 hn
  have hlt : k < m := of_decide_eq_true (List.all_eq_true.1 hk.2 k hk1)
  have := M.nx
  refine ⟨by omega, by rw [H.next_up]; omega, ?_⟩
  rw [H.get_up]
  cases e : h.get (h.next + k) with
  | none => rfl
  | some B => have := M.wf _ _ e; omega
theorem Mem.setR (M : Mem base h L R) {n : Nat} (j : Nat) (hj : R[j]? = some n) (B : Blk) : Mem base (h.set n (some B)) ([(n, B)] :: L) (R.eraseIdx j) := by
  have hm : n ∈ R := List.mem_of_getElem? hj
  obtain ⟨r1, r2, r3⟩ := M.res n hm
  have hb : base.get n = none := by
    cases e : base.get n with
    | none => rfl
    | some B => rw [M.sub _ _ e] at r3; cases r3
  refine ⟨fun m B' e => ?_, M.nx, fun m B' e => ?_, fun m hm2 e => ?_, fun p hp => ?_, ?_, fun m hm2 => ?_, M.rnd.sublist (List.eraseIdx_sublist ..)⟩
  · rw [H.get_set] at e; rw [H.next_set]
    split at e
    · rename_i q; subst q; exact r2
    · exact M.wf _ _ e
  · rw [H.get_set_ne _ _ (fun q => by subst q; rw [hb] at e; cases e)]; exact M.sub _ _ e
  · rw [H.get_set_ne _ _ (by omega)]; exact M.no m hm2 e
  · rw [List.flatten_cons, List.mem_append] at hp
    rcases hp with hp | hp
    · rw [List.mem_singleton] at hp; subst hp
      exact ⟨H.get_set_same .., r1, hb⟩
    · obtain ⟨a, b, c⟩ := M.own p hp
      refine ⟨?_, b, c⟩
      rw [H.get_set_ne _ _ (fun q => by rw [q, r3] at a; cases a)]; exact a
  · rw [List.flatten_cons, List.map_append, List.nodup_append]
    refine ⟨by simp, M.nd, fun a ha b hb2 => ?_⟩
    simp at ha; subst ha
    obtain ⟨q, hq, rfl⟩ := List.mem_map.1 hb2
    intro e
    have := (M.own q hq).1
    rw [← e, r3] at this; cases this
  · have hne : m ≠ n := by
      intro e; subst e
      have hlt := (List.getElem?_eq_some_iff.1 hj).1
      have hp := List.getElem?_eq_some_iff.1 hj
      have : (R.eraseIdx j).count m = R.count m - 1 := by
        rw [List.eraseIdx_eq_take_drop_succ]
        have e2 : R = R.take j ++ (m :: R.drop (j + 1)) := by
          rw [← hp.2, List.getElem_cons_drop, List.take_append_drop]
        have e3 : R.count m = (R.take j).count m + (1 + (R.drop (j+1)).count m) := by
          conv => lhs; rw [e2]
          rw [List.count_append, List.count_cons_self]; omega
        rw [List.count_append]; omega
      have h1 : R.count m ≤ 1 := List.nodup_iff_count.1 M.rnd m
      have h2 : 0 < (R.eraseIdx j).count m := List.count_pos_iff.2 hm2
      omega
    obtain ⟨a, b, c⟩ := M.res m ((List.eraseIdx_sublist ..).subset hm2)
    exact ⟨a, b, by rw [H.get_set_ne _ _ hne]; exact c⟩
theorem Mem.set {S1 S2 : Seg} {p : Nat} {B : Blk} (M : Mem base h ((S1 ++ (p, B) :: S2) :: L) R) (B' : Blk) : Mem base (h.set p (some B')) ((S1 ++ (p, B') :: S2) :: L) R := by
  obtain ⟨o1, o2, o3⟩ := M.own (p, B) (by simp)
  have hnd := M.nd
  have eq : ∀ X : Blk, ((S1 ++ (p, X) :: S2) :: L).flatten.map Prod.fst = S1.map Prod.fst ++ p :: (S2.map Prod.fst ++ L.flatten.map Prod.fst) := fun X => by simp
  rw [eq] at hnd
  have hne : ∀ q ∈ S1 ++ S2 ++ L.flatten, q.1 ≠ p := by
    intro q hq e
    rw [List.nodup_append, List.nodup_cons] at hnd
    obtain ⟨d1, ⟨d2, d3⟩, d4⟩ := hnd
    simp only [List.mem_append] at hq
    rcases hq with (hq | hq) | hq
    · exact d4 q.1 (List.mem_map_of_mem hq) p (List.mem_cons_self ..) e
    · exact d2 (by rw [← e]; exact List.mem_append_left _ (List.mem_map_of_mem hq))
    · exact d2 (by rw [← e]; exact List.mem_append_right _ (List.mem_map_of_mem hq))
  refine ⟨fun m X e => ?_, M.nx, fun m X e => ?_, fun m hm e => ?_, fun q hq => ?_, by rw [eq]; exact hnd, fun n hn => ?_, M.rnd⟩
  · rw [H.get_set] at e; rw [H.next_set]
    split at e
    · rename_i q; subst q; exact M.wf _ _ o1
    · exact M.wf _ _ e
  · rw [H.get_set_ne _ _ (fun q => by subst q; rw [o3] at e; cases e)]; exact M.sub _ _ e
  · have : base.next ≤ p := o2
    rw [H.get_set_ne _ _ (by omega)]; exact M.no m hm e
  · simp only [List.flatten_cons, List.mem_append, List.mem_cons] at hq
    have ot : ∀ q, q ∈ S1 ++ S2 ++ L.flatten → (h.set p (some B')).get q.1 = some q.2 ∧ base.next ≤ q.1 ∧ base.get q.1 = none := fun q hq => by
      rw [H.get_set_ne _ _ (hne q hq)]
      refine M.own q ?_
      simp only [List.flatten_cons, List.mem_append, List.mem_cons] at hq ⊢
      rcases hq with (a | a) | a
      · exact .inl (.inl a)
      · exact .inl (.inr (.inr a))
      · exact .inr a
    rcases hq with (a | a | a) | a
    · exact ot q (by simp only [List.mem_append]; exact .inl (.inl a))
    · subst a; exact ⟨H.get_set_same .., o2, o3⟩
    · exact ot q (by simp only [List.mem_append]; exact .inl (.inr a))
    · exact ot q (by simp only [List.mem_append]; exact .inr a)
  · obtain ⟨a, b, c⟩ := M.res n hn
    refine ⟨a, b, ?_⟩
    rw [H.get_set_ne _ _ (fun q => by subst q; rw [c] at o1; cases o1)]; exact c
theorem Mem.free {S1 S2 : Seg} {p : Nat} {B : Blk} (M : Mem base h ((S1 ++ (p, B) :: S2) :: L) R) : Mem base (h.set p none) ((S1 ++ S2) :: L) R := by
  have N := M.set B
  obtain ⟨o1, o2, o3⟩ := M.own (p, B) (by simp)
  have hnd := M.nd
  have eq : ((S1 ++ (p, B) :: S2) :: L).flatten.map Prod.fst = S1.map Prod.fst ++ p :: (S2.map Prod.fst ++ L.flatten.map Prod.fst) := by simp
  rw [eq] at hnd
  have hne : ∀ q ∈ S1 ++ S2 ++ L.flatten, q.1 ≠ p := by
    intro q hq e
    rw [List.nodup_append, List.nodup_cons] at hnd
    obtain ⟨d1, ⟨d2, d3⟩, d4⟩ := hnd
    simp only [List.mem_append] at hq
    rcases hq with (hq | hq) | hq
    · exact d4 q.1 (List.mem_map_of_mem hq) p (List.mem_cons_self ..) e
    · exact d2 (by rw [← e]; exact List.mem_append_left _ (List.mem_map_of_mem hq))
    · exact d2 (by rw [← e]; exact List.mem_append_right _ (List.mem_map_of_mem hq))
  refine ⟨fun m X e => ?_, M.nx, fun m X e => ?_, fun m hm e => ?_, fun q hq => ?_, ?_, fun n hn => ?_, M.rnd⟩
  · rw [H.get_set] at e; rw [H.next_set]
    split at e
    · cases e
    · exact M.wf _ _ e
  · rw [H.get_set_ne _ _ (fun q => by subst q; rw [o3] at e; cases e)]; exact M.sub _ _ e
  · have : base.next ≤ p := o2
    rw [H.get_set_ne _ _ (by omega)]; exact M.no m hm e
  · have hq2 : q ∈ S1 ++ S2 ++ L.flatten := by simpa using hq
    rw [H.get_set_ne _ _ (hne q hq2)]
    refine M.own q ?_
    simp only [List.flatten_cons, List.mem_append, List.mem_cons] at hq2 ⊢
    rcases hq2 with (a | a) | a
    · exact .inl (.inl a)
    · exact .inl (.inr (.inr a))
    · exact .inr a
  · have : ((S1 ++ S2) :: L).flatten.map Prod.fst = S1.map Prod.fst ++ (S2.map Prod.fst ++ L.flatten.map Prod.fst) := by simp
    rw [this]
    rw [List.nodup_append, List.nodup_cons] at hnd
    rw [List.nodup_append]
    exact ⟨hnd.1, hnd.2.1.2, fun a ha b hb => hnd.2.2 a ha b (List.mem_cons_of_mem _ hb)⟩
  · obtain ⟨a, b, c⟩ := M.res n hn
    refine ⟨a, b, ?_⟩
    rw [H.get_set]; split
    · rfl
    · exact c
variable {tab : Nat → Option FD} {Q : Ex → Env → H → Prop} {q : Env → H → Prop} {e e2 : Env}
def Cll (tab : Nat → Option FD) (f : Nat) (us : List Value) (h : H) (P : Value → H → Prop) : Prop := ∃ v h2, Ran tab f us h v h2 ∧ P v h2
def WC (tab : Nat → Option FD) (ic : IC) (e : Env) (h : H) (Q : Ex → Env → H → Prop) : Prop := ∃ x e2 h2, RanC tab ic e h x e2 h2 ∧ Q x e2 h2
def WS (tab : Nat → Option FD) (rb : Nat) (ss : List Step) (e : Env) (h : H) (q : Env → H → Prop) : Prop := ∃ e2 h2, RanS tab rb ss e h e2 h2 ∧ q e2 h2
def thenQ (tab : Nat → Option FD) (b : IC) (Q : Ex → Env → H → Prop) : Ex → Env → H → Prop
  | .norm, e, h => WC tab b e h Q
  | x, e, h => Q x e h
def blockQ (id : Nat) (Q : Ex → Env → H → Prop) : Ex → Env → H → Prop
  | .exit j, e, h => if j = id then Q .norm e h else Q (.exit j) e h
  | x, e, h => Q x e h
def endQ (rs : List RV) (P : Value → H → Prop) : Ex → Env → H → Prop
  | .exit _, _, _ => False
  | _, e, h => ∃ vs, resE rs e h = some vs ∧ P (packE vs) h
theorem Cll.code {f : Nat} {F : IFun} {us : List Value} {P : Value → H → Prop} (ht : tab f = some (.code F)) (hl : us.length = F.np) (w : WC tab F.body (mkEnv 0 us) h (endQ F.rs P)) : Cll tab f us h P := by
  obtain ⟨x, e2, h2, r, k⟩ := w
  cases x with
  | norm => obtain ⟨vs, e, p⟩ := k; exact ⟨_, h2, .codeN ht hl r e, p⟩
  | exit id => exact k.elim
  | ret => obtain ⟨vs, e, p⟩ := k; exact ⟨_, h2, .codeR ht hl r e, p⟩
theorem WC.skip (k : Q .norm e h) : WC tab .skip e h Q := ⟨_, _, _, .skip, k⟩
theorem WC.ret (k : Q .ret e h) : WC tab .ret e h Q := ⟨_, _, _, .ret, k⟩
theorem WC.exit {id : Nat} (k : Q (.exit id) e h) : WC tab (.exit id) e h Q := ⟨_, _, _, .exit, k⟩
theorem WC.seq {a b : IC} (k : WC tab a e h (thenQ tab b Q)) : WC tab (.seq a b) e h Q := by
  obtain ⟨x, e2, h2, r, k⟩ := k
  cases x with
  | norm => obtain ⟨y, e3, h3, r2, k2⟩ := k; exact ⟨_, _, _, .seq r r2, k2⟩
  | exit id => exact ⟨_, _, _, .seqE r, k⟩
  | ret => exact ⟨_, _, _, .seqR r, k⟩
theorem WC.condT {c : Operand} {a b : IC} (hc : ev e c = some (.bool true)) (k : WC tab a e h Q) : WC tab (.cond c a b) e h Q := by
  obtain ⟨x, e2, h2, r, k⟩ := k; exact ⟨x, e2, h2, .condT hc r, k⟩
theorem WC.condF {c : Operand} {a b : IC} (hc : ev e c = some (.bool false)) (k : WC tab b e h Q) : WC tab (.cond c a b) e h Q := by
  obtain ⟨x, e2, h2, r, k⟩ := k; exact ⟨x, e2, h2, .condF hc r, k⟩
theorem WC.block {id : Nat} {b : IC} (k : WC tab b e h (blockQ id Q)) : WC tab (.block id b) e h Q := by
  obtain ⟨x, e2, h2, r, k⟩ := k
  cases x with
  | norm => exact ⟨_, _, _, .blockN r, k⟩
  | ret => exact ⟨_, _, _, .blockR r, k⟩
  | exit j =>
    simp only [blockQ] at k
    split at k
    · rename_i q; subst q; exact ⟨_, _, _, .blockE r, k⟩
    · rename_i q; exact ⟨_, _, _, .blockO q r, k⟩
def loopQ {σ : Type} (keep : List Nat) (E : σ → Env) (I : σ → H → Prop) (μ : σ → Nat) (s : σ) (Q : Ex → Env → H → Prop) : Ex → Env → H → Prop
  | .norm, e, h => ∃ s', norm keep e = E s' ∧ I s' h ∧ μ s' < μ s
  | x, e, h => Q x e h
theorem WC.loop {σ : Type} {keep : List Nat} {b : IC} (E : σ → Env) (I : σ → H → Prop) (μ : σ → Nat) (s0 : σ) (hn : norm keep e = E s0) (hi : I s0 h)
    (step : ∀ s h, I s h → WC tab b (E s) h (loopQ keep E I μ s Q)) : WC tab (.loop keep b) e h Q := by
  generalize hm : μ s0 = m
  induction m using Nat.strongRecOn generalizing s0 e h with
  | _ m ih =>
    obtain ⟨x, e2, h2, r, k⟩ := step s0 h hi
    cases x with
    | norm =>
      obtain ⟨s', k1, k2, k3⟩ := k
      obtain ⟨y, e3, h3, r2, p⟩ := ih (μ s') (by omega) s' k1 k2 rfl
      exact ⟨y, e3, h3, .loop hn r r2, p⟩
    | exit id => exact ⟨_, _, _, .loopE hn r, k⟩
    | ret => exact ⟨_, _, _, .loopR hn r, k⟩
theorem WC.run {ss : List Step} {keep : List Nat} (k : WS tab 0 ss e h (fun e1 h1 => Q .norm (norm keep e1) h1)) : WC tab (.run ss keep) e h Q := by
  obtain ⟨e2, h2, r, k⟩ := k; exact ⟨_, _, _, .run _ r rfl, k⟩
theorem WC.draw {m : Nat} {ss : List Step} {keep : List Nat} (M : Mem base h L []) (ks : List Nat) (hk : (decide (ks.Nodup) && ks.all (fun k => decide (k < m))) = true)
    (k : ∀ rb h1, Mem base h1 L (ks.map (rb + ·)) → WS tab rb ss e h1 (fun e1 h1 => Q .norm (norm keep e1) h1)) : WC tab (.draw m ss keep) e h Q := by
  obtain ⟨e2, h2, r, k⟩ := k h.next (h.up m) (M.up hk); exact ⟨_, _, _, .draw _ r rfl, k⟩
variable {rb : Nat} {ss : List Step} {d : Option Nat} {g : Option (Nat × Bool)}
theorem WS.nil {keep : List Nat} (e2 : Env) (hn : norm keep e = e2) (k : Q .norm e2 h) : WS tab rb [] e h (fun e1 h1 => Q .norm (norm keep e1) h1) := ⟨_, _, .nil, by show Q .norm (norm keep e) h; rw [hn]; exact k⟩
theorem WS.op {i : IOp} {v : Value} (hg : gd e g = some true) (ho : opE i e h none = some (v, h1)) (k : WS tab rb ss (put e d v) h1 q) : WS tab rb (.op d g i :: ss) e h q := by
  obtain ⟨e2, h2, r, p⟩ := k; exact ⟨e2, h2, .op hg ho r, p⟩
theorem WS.opV {i : IOp} {v : Value} (v' : Value) (hg : gd e g = some true) (ho : opE i e h none = some (v, h1)) (hv : v = v') (k : WS tab rb ss (put e d v') h1 q) : WS tab rb (.op d g i :: ss) e h q := by
  subst hv; exact .op hg ho k
theorem WS.off {i : IOp} (hg : gd e g = some false) (k : WS tab rb ss (put e d undef) h q) : WS tab rb (.op d g i :: ss) e h q := by
  obtain ⟨e2, h2, r, p⟩ := k; exact ⟨e2, h2, .off hg r, p⟩
theorem WS.offC {c : CK} {xs : List Operand} (hg : gd e g = some false) (k : WS tab rb ss (put e d undef) h q) : WS tab rb (.call d g c xs :: ss) e h q := by
  obtain ⟨e2, h2, r, p⟩ := k; exact ⟨e2, h2, .offC hg r, p⟩
theorem WS.chk {i : IOp} {n : Nat} {v : Value} (hg : gd e g = some true) (ho : opE i e h none = some (v, h1)) (hl : look e n = some v) (hp : sameV v v = true) (k : WS tab rb ss e h q) : WS tab rb (.chk n g i :: ss) e h q := by
  obtain ⟨e2, h2, r, p⟩ := k; exact ⟨e2, h2, .chk hg ho hl hp r, p⟩
theorem WS.call {c : CK} {xs : List Operand} {vs us : List Value} {f : Nat} {P : Value → H → Prop} (hg : gd e g = some true) (hx : evs e xs = some vs) (hw : whom c e vs = some (f, us)) (hc : Cll tab f us h P) (k : ∀ v h2, P v h2 → WS tab rb ss (put e d v) h2 q) : WS tab rb (.call d g c xs :: ss) e h q := by
  obtain ⟨v, h2, r, p⟩ := hc
  obtain ⟨e3, h3, r2, p2⟩ := k v h2 p
  exact ⟨e3, h3, .call hg hx hw r r2, p2⟩
theorem WS.box {x : Operand} {v : Value} (M : Mem base h L R) (cs : List Value) (hg : gd e g = some true) (hx : ev e x = some v) (hc : v.cells.toList = cs) (ho : cs.all (·.oneCell') = true)
    (k : ∀ p h1, Mem base h1 ([(p, ⟨cs, 0, false⟩)] :: L) R → WS tab rb ss (put e d (.pointer (some ⟨p, 0, none⟩))) h1 q) : WS tab rb (.op d g (.box x) :: ss) e h q :=
  .op hg (op_box h.next hx hc ho rfl) (k _ _ (M.alloc _))
theorem WS.new {z : List Value} (M : Mem base h L R) (hg : gd e g = some true)
    (k : ∀ p h1, Mem base h1 ([(p, ⟨z, 0, false⟩)] :: L) R → WS tab rb ss (put e d (.pointer (some ⟨p, 0, none⟩))) h1 q) : WS tab rb (.op d g (.new z) :: ss) e h q :=
  .op hg (op_new h.next rfl) (k _ _ (M.alloc _))
theorem WS.bsl {es len : Nat} {z : List Value} {ps : List (Nat × Nat × Operand)} {l : List (Nat × Nat × Value)} (M : Mem base h L R) (cs : List Value) (hg : gd e g = some true) (hp : evp e ps = some l) (hf : fillL z l = some cs) (ho : cs.all (·.oneCell') = true)
    (k : ∀ p h1, Mem base h1 ([(p, ⟨cs, es, false⟩)] :: L) R → WS tab rb ss (put e d (.slice (some ⟨p, 0, none⟩) len (2 * len + 1))) h1 q) : WS tab rb (.op d g (.bsl es len z ps) :: ss) e h q :=
  .op hg (op_bsl h.next hp hf ho rfl) (k _ _ (M.alloc _))
theorem WS.bslA {n es len : Nat} {z : List Value} {ps : List (Nat × Nat × Operand)} {l : List (Nat × Nat × Value)} (M : Mem base h L R) (cs : List Value) (j : Nat) (hj : R[j]? = some (rb + n)) (hg : gd e g = some true) (hp : evp e ps = some l) (hf : fillL z l = some cs) (ho : cs.all (·.oneCell') = true)
    (k : ∀ h1, Mem base h1 ([(rb + n, ⟨cs, es, false⟩)] :: L) (R.eraseIdx j) → WS tab rb ss (put e d (.slice (some ⟨rb + n, 0, none⟩) len (2 * len + 1))) h1 q) : WS tab rb (.opA d g (.bsl es len z ps) n :: ss) e h q := by
  obtain ⟨e2, h2, r, p⟩ := k _ (M.setR j hj ⟨cs, es, false⟩)
  exact ⟨e2, h2, .opA hg (op_bslA (rb + n) hp hf ho rfl) r, p⟩
theorem op_ld {x : Operand} {p off : Nat} {B : Blk} {v : Value} (hb : h.get p = some B) (hx : ev e x = some (.pointer (some ⟨p, off, none⟩))) (hc : B.cells[off]? = some v) : opE (.ld1 x) e h none = some (v, h) := op_ld1 hx (ld_at hb hc)
theorem op_lds {x : Operand} {p off n : Nat} {B : Blk} (cs : List Value) (hb : h.get p = some B) (hx : ev e x = some (.pointer (some ⟨p, off, none⟩))) (hle : off + n ≤ B.cells.length) (hc : (B.cells.drop off).take n = cs) : opE (.ldN n x) e h none = some (.agg cs.toArray, h) := by
  rw [← hc]; exact op_ldN hx (lds_at hb hle)
theorem WS.st {S1 S2 : Seg} {p off n : Nat} {B : Blk} {x y : Operand} {v : Value} (M : Mem base h ((S1 ++ (p, B) :: S2) :: L) R) (vs cs : List Value) (hg : gd e g = some true) (hx : ev e x = some (.pointer (some ⟨p, off, none⟩))) (hy : ev e y = some v) (hv : v.cells.toList = vs) (hn : vs.length = n) (hp : 0 < n) (hr : B.ro = false)
    (hle : off + n ≤ B.cells.length) (ho : vs.all (·.oneCell') = true) (hc : splice B.cells off vs = cs)
    (k : ∀ h1, Mem base h1 ((S1 ++ (p, ⟨cs, B.es, false⟩) :: S2) :: L) R → WS tab rb ss (put e d undef) h1 q) : WS tab rb (.op d g (.st n x y) :: ss) e h q := by
  have hb : h.get p = some B := (M.own (p, B) (by simp)).1
  subst hn
  refine .op hg (op_st hx hy (by rw [hv]) (h2 := h.set p (some ⟨cs, B.es, false⟩)) ?_) (k _ (M.set _))
  rw [hv, ← hc]
  match vs, hp, hle, ho with
  | v :: vs, _, hle, ho => exact sts_at hb hr hle ho
theorem op_ldH {x : Operand} {a : Addr} {v : Value} (hx : ev e x = some (.pointer (some a))) (hl : h.ld a = some v) : opE (.ld1 x) e h none = some (v, h) := op_ld1 hx hl
variable {k : IntKind} {a b : Int} {x y : Operand}
theorem op_bin2 {op : BinOp} {v w z : Value} (hx : ev e x = some v) (hy : ev e y = some w) (hv : binV op v w = some z) : opE (.bin op x y) e h none = some (z, h) := op_bin hx hy hv
theorem vb_t {p : Prop} [Decidable p] (hp : p) : Value.bool (decide p) = Value.bool true := by rw [decide_eq_true hp]
theorem vb_f {p : Prop} [Decidable p] (hp : ¬ p) : Value.bool (decide p) = Value.bool false := by rw [decide_eq_false hp]
theorem WS.lss (hg : gd e g = some true) (hx : ev e x = some (.int k a)) (hy : ev e y = some (.int k b)) (kt : a < b → WS tab rb ss (put e d (.bool true)) h q) (kf : b ≤ a → WS tab rb ss (put e d (.bool false)) h q) : WS tab rb (.op d g (.bin .lss x y) :: ss) e h q := by
  by_cases c : a < b
  · exact .opV _ hg (op_bin2 (z := .bool (decide (a < b))) hx hy (by simp [binV])) (vb_t c) (kt c)
  · exact .opV _ hg (op_bin2 (z := .bool (decide (a < b))) hx hy (by simp [binV])) (vb_f c) (kf (by omega))
theorem WS.leq (hg : gd e g = some true) (hx : ev e x = some (.int k a)) (hy : ev e y = some (.int k b)) (kt : a ≤ b → WS tab rb ss (put e d (.bool true)) h q) (kf : b < a → WS tab rb ss (put e d (.bool false)) h q) : WS tab rb (.op d g (.bin .leq x y) :: ss) e h q := by
  by_cases c : a ≤ b
  · exact .opV _ hg (op_bin2 (z := .bool (decide (a ≤ b))) hx hy (by simp [binV])) (vb_t c) (kt c)
  · exact .opV _ hg (op_bin2 (z := .bool (decide (a ≤ b))) hx hy (by simp [binV])) (vb_f c) (kf (by omega))
theorem WS.gtr (hg : gd e g = some true) (hx : ev e x = some (.int k a)) (hy : ev e y = some (.int k b)) (kt : b < a → WS tab rb ss (put e d (.bool true)) h q) (kf : a ≤ b → WS tab rb ss (put e d (.bool false)) h q) : WS tab rb (.op d g (.bin .gtr x y) :: ss) e h q := by
  by_cases c : a > b
  · exact .opV _ hg (op_bin2 (z := .bool (decide (a > b))) hx hy (by simp [binV])) (vb_t c) (kt c)
  · exact .opV _ hg (op_bin2 (z := .bool (decide (a > b))) hx hy (by simp [binV])) (vb_f c) (kf (by omega))
theorem WS.geq (hg : gd e g = some true) (hx : ev e x = some (.int k a)) (hy : ev e y = some (.int k b)) (kt : b ≤ a → WS tab rb ss (put e d (.bool true)) h q) (kf : a < b → WS tab rb ss (put e d (.bool false)) h q) : WS tab rb (.op d g (.bin .geq x y) :: ss) e h q := by
  by_cases c : a ≥ b
  · exact .opV _ hg (op_bin2 (z := .bool (decide (a ≥ b))) hx hy (by simp [binV])) (vb_t c) (kt c)
  · exact .opV _ hg (op_bin2 (z := .bool (decide (a ≥ b))) hx hy (by simp [binV])) (vb_f c) (kf (by omega))
theorem WS.eql (hg : gd e g = some true) (hx : ev e x = some (.int k a)) (hy : ev e y = some (.int k b)) (kt : a = b → WS tab rb ss (put e d (.bool true)) h q) (kf : a ≠ b → WS tab rb ss (put e d (.bool false)) h q) : WS tab rb (.op d g (.bin .eql x y) :: ss) e h q := by
  by_cases c : a = b
  · exact .opV _ hg (op_bin2 (z := .bool (a == b)) hx hy (by simp [binV])) (by simp [c]) (kt c)
  · exact .opV _ hg (op_bin2 (z := .bool (a == b)) hx hy (by simp [binV])) (by simp [c]) (kf c)
theorem WS.neq (hg : gd e g = some true) (hx : ev e x = some (.int k a)) (hy : ev e y = some (.int k b)) (kt : a ≠ b → WS tab rb ss (put e d (.bool true)) h q) (kf : a = b → WS tab rb ss (put e d (.bool false)) h q) : WS tab rb (.op d g (.bin .neq x y) :: ss) e h q := by
  by_cases c : a = b
  · exact .opV _ hg (op_bin2 (z := .bool (a != b)) hx hy (by simp [binV])) (by simp [c]) (kf c)
  · exact .opV _ hg (op_bin2 (z := .bool (a != b)) hx hy (by simp [binV])) (by simp [c]) (kt c)
theorem op_iaV2 {p n c es : Nat} {o : Nat} (j : Nat) (hx : ev e x = some (.slice (some ⟨p, o, none⟩) n c)) (hi : ev e y = some (.int k (j : Int))) (hj : j < n) : opE (.iaV es x y) e h none = some (.pointer (some ⟨p, o + j * es, none⟩), h) := op_iaV j hx hi hj
end Go.Proofs.Ytfcpokolbifilaa.Am
namespace Go.Proofs.Ytfcpokolbifilaa.Am
open Go
set_option linter.unusedVariables false
set_option linter.unusedSimpArgs false
variable {base h h1 h2 h3 : H} {L L' : List Seg} {R : List Nat} {S : Seg}
variable {tab : Nat → Option FD} {Q : Ex → Env → H → Prop} {q : Env → H → Prop} {e e2 : Env}
variable {rb : Nat} {ss : List Step} {d : Option Nat} {g : Option (Nat × Bool)}
theorem Mem.name (M : Mem base h L R) : ∃ L', L' = L ∧ Mem base h L' R := ⟨L, rfl, M⟩
theorem Mem.name1 (M : Mem base h (S :: L) R) : ∃ L', L' = L ∧ Mem base h (S :: L') R := ⟨L, rfl, M⟩
theorem Mem.name2 {S2 : Seg} (M : Mem base h (S :: S2 :: L) R) : ∃ L', L' = L ∧ Mem base h (S :: S2 :: L') R := ⟨L, rfl, M⟩
theorem Mem.take (M : Mem base h L R) (k : Nat) : Mem base h (L.take k) R := by
  have hs : (L.take k).flatten.Sublist L.flatten := by
    conv => rhs; rw [← List.take_append_drop k L, List.flatten_append]
    exact List.sublist_append_left ..
  exact ⟨M.wf, M.nx, M.sub, M.no, fun p hp => M.own p (hs.subset hp), M.nd.sublist (hs.map _), M.res, M.rnd⟩
theorem WC.env {ic : IC} (e2 : Env) (he : e = e2) (k : WC tab ic e2 h Q) : WC tab ic e h Q := by rw [he]; exact k
theorem res_nil : resE [] e h = some [] := rfl
theorem res_tmp {t : Nat} {rs : List RV} {v : Value} {vs : List Value} (hl : look e t = some v) (k : resE rs e h = some vs) : resE (.tmp t :: rs) e h = some (v :: vs) := by simp only [resE, hl, k]
theorem WS.st1 {p off n es : Nat} {cells : List Value} {x y : Operand} {v : Value} (M : Mem base h ([(p, ⟨cells, es, false⟩)] :: L) R) (vs cs : List Value) (hg : gd e g = some true) (hx : ev e x = some (.pointer (some ⟨p, off, none⟩))) (hy : ev e y = some v) (hv : v.cells.toList = vs) (hn : vs.length = n) (hp : 0 < n)
    (hle : off + n ≤ cells.length) (ho : vs.all (·.oneCell') = true) (hc : splice cells off vs = cs)
    (k : ∀ h1, Mem base h1 ([(p, ⟨cs, es, false⟩)] :: L) R → WS tab rb ss (put e d undef) h1 q) : WS tab rb (.op d g (.st n x y) :: ss) e h q :=
  WS.st (S1 := []) (S2 := []) M vs cs hg hx hy hv hn hp rfl hle ho hc k
theorem WS.lssN {x y : Operand} {k : IntKind} {a b : Nat} (hg : gd e g = some true) (hx : ev e x = some (.int k (a : Int))) (hy : ev e y = some (.int k (b : Int))) (kt : a < b → WS tab rb ss (put e d (.bool true)) h q) (kf : b ≤ a → WS tab rb ss (put e d (.bool false)) h q) : WS tab rb (.op d g (.bin .lss x y) :: ss) e h q :=
  .lss hg hx hy (fun c => kt (by omega)) (fun c => kf (by omega))
theorem WS.leqN {x y : Operand} {k : IntKind} {a b : Nat} (hg : gd e g = some true) (hx : ev e x = some (.int k (a : Int))) (hy : ev e y = some (.int k (b : Int))) (kt : a ≤ b → WS tab rb ss (put e d (.bool true)) h q) (kf : b < a → WS tab rb ss (put e d (.bool false)) h q) : WS tab rb (.op d g (.bin .leq x y) :: ss) e h q :=
  .leq hg hx hy (fun c => kt (by omega)) (fun c => kf (by omega))
theorem WS.gtrN {x y : Operand} {k : IntKind} {a b : Nat} (hg : gd e g = some true) (hx : ev e x = some (.int k (a : Int))) (hy : ev e y = some (.int k (b : Int))) (kt : b < a → WS tab rb ss (put e d (.bool true)) h q) (kf : a ≤ b → WS tab rb ss (put e d (.bool false)) h q) : WS tab rb (.op d g (.bin .gtr x y) :: ss) e h q :=
  .gtr hg hx hy (fun c => kt (by omega)) (fun c => kf (by omega))
theorem WS.geqN {x y : Operand} {k : IntKind} {a b : Nat} (hg : gd e g = some true) (hx : ev e x = some (.int k (a : Int))) (hy : ev e y = some (.int k (b : Int))) (kt : b ≤ a → WS tab rb ss (put e d (.bool true)) h q) (kf : a < b → WS tab rb ss (put e d (.bool false)) h q) : WS tab rb (.op d g (.bin .geq x y) :: ss) e h q :=
  .geq hg hx hy (fun c => kt (by omega)) (fun c => kf (by omega))
theorem WS.eqlN {x y : Operand} {k : IntKind} {a b : Nat} (hg : gd e g = some true) (hx : ev e x = some (.int k (a : Int))) (hy : ev e y = some (.int k (b : Int))) (kt : a = b → WS tab rb ss (put e d (.bool true)) h q) (kf : a ≠ b → WS tab rb ss (put e d (.bool false)) h q) : WS tab rb (.op d g (.bin .eql x y) :: ss) e h q :=
  .eql hg hx hy (fun c => kt (by omega)) (fun c => kf (by omega))
theorem WS.neqN {x y : Operand} {k : IntKind} {a b : Nat} (hg : gd e g = some true) (hx : ev e x = some (.int k (a : Int))) (hy : ev e y = some (.int k (b : Int))) (kt : a ≠ b → WS tab rb ss (put e d (.bool true)) h q) (kf : a = b → WS tab rb ss (put e d (.bool false)) h q) : WS tab rb (.op d g (.bin .neq x y) :: ss) e h q :=
  .neq hg hx hy (fun c => kt (by omega)) (fun c => kf (by omega))
theorem WC.unroll {keep : List Nat} {b : IC} (e2 : Env) (hn : norm keep e = e2) (k : WC tab b e2 h (thenQ tab (.loop keep b) Q)) : WC tab (.loop keep b) e h Q := by
  obtain ⟨x, e3, h3, r, k⟩ := k
  cases x with
  | norm => obtain ⟨y, e4, h4, r2, k2⟩ := k; exact ⟨_, _, _, .loop hn r r2, k2⟩
  | exit id => exact ⟨_, _, _, .loopE hn r, k⟩
  | ret => exact ⟨_, _, _, .loopR hn r, k⟩
theorem wu64 (n : Int) : IntKind.u64.wrap n = n % 18446744073709551616 := by simp [IntKind.wrap, IntKind.bits, IntKind.signed]
theorem cv_u64 {n : Nat} (h : n < 18446744073709551616) : Value.int .u64 (IntKind.u64.wrap (n : Int)) = .int .u64 (n : Int) := by
  congr 1; rw [wu64]; omega
theorem cv_i64 {n : Nat} (h : n < 9223372036854775808) : Value.int .i64 (IntKind.i64.wrap (n : Int)) = .int .i64 (n : Int) := by
  congr 1; rw [IntKind.wrap_i64]; omega
theorem add_i64 {a b : Nat} (h : a + b < 9223372036854775808) : Value.int .i64 (IntKind.i64.wrap ((a : Int) + (b : Int))) = .int .i64 ((a + b : Nat) : Int) := by
  congr 1; rw [IntKind.wrap_i64]; omega
theorem sub_i64 {a b : Nat} (h : b ≤ a ∧ a < 9223372036854775808) : Value.int .i64 (IntKind.i64.wrap ((a : Int) - (b : Int))) = .int .i64 ((a - b : Nat) : Int) := by
  congr 1; rw [IntKind.wrap_i64]; omega
def At (h : H) (b o : Nat) (cs : List Value) : Prop := ∃ B, h.get b = some B ∧ o + cs.length ≤ B.cells.length ∧ (B.cells.drop o).take cs.length = cs
theorem At.mono {b o : Nat} {cs : List Value} (A : At h b o cs) (hs : ∀ n B, h.get n = some B → h2.get n = some B) : At h2 b o cs := by
  obtain ⟨B, e1, e2, e3⟩ := A; exact ⟨B, hs _ _ e1, e2, e3⟩
theorem At.ld {b o k : Nat} {cs : List Value} {v : Value} (A : At h b o cs) (hc : cs[k]? = some v) : h.ld ⟨b, o + k, none⟩ = some v := by
  obtain ⟨B, e1, e2, e3⟩ := A
  have hk := (List.getElem?_eq_some_iff.1 hc).1
  refine ld_at e1 ?_
  rw [← e3, List.getElem?_take, if_pos hk, List.getElem?_drop] at hc; exact hc
theorem At.ld0 {b o : Nat} {cs : List Value} {v : Value} (A : At h b o cs) (hc : cs[0]? = some v) : h.ld ⟨b, o, none⟩ = some v := A.ld (k := 0) hc
theorem At.lds {b o : Nat} {cs : List Value} (A : At h b o cs) : h.lds ⟨b, o, none⟩ cs.length = some cs := by
  obtain ⟨B, e1, e2, e3⟩ := A; rw [lds_at e1 e2, e3]
theorem op_ldAt {x : Operand} {b o n : Nat} {cs : List Value} (hx : ev e x = some (.pointer (some ⟨b, o, none⟩))) (A : At h b o cs) (hn : cs.length = n) : opE (.ldN n x) e h none = some (.agg cs.toArray, h) := by
  subst hn; exact op_ldN hx A.lds
theorem At.elem {α : Type} {K : Row α} {l : List α} {b o j : Nat} {y : α} (A : At h b o (K.flat l)) (hy : l[j]? = some y) : At h b (o + j * K.n) (K.cells y) := by
  obtain ⟨B, e1, e2, e3⟩ := A
  have hj := (List.getElem?_eq_some_iff.1 hy).1
  have := Nat.mul_le_mul_right K.n (show j + 1 ≤ l.length by omega)
  rw [Nat.add_mul, Nat.one_mul] at this
  rw [K.flat_length] at e2
  refine ⟨B, e1, by rw [K.len]; omega, ?_⟩
  rw [← K.flat_get l j y hy, ← e3, K.flat_length, List.drop_take, List.take_take, List.drop_drop]
  congr 1
  simp; omega
section
variable {α : Type} (K : Row α)
inductive Row.Sl (h : H) : Value → List α → Prop
  | nil : Row.Sl h (.slice none 0 0) []
  | emp (a : Addr) (c : Nat) : Row.Sl h (.slice (some a) 0 c) []
  | row (b o c : Nat) (l : List α) (ha : At h b o (K.flat l)) : Row.Sl h (.slice (some ⟨b, o, none⟩) l.length c) l
variable {K} {V : Value} {l : List α}
theorem Row.Sl.mono (A : K.Sl h V l) (hs : ∀ n B, h.get n = some B → h2.get n = some B) : K.Sl h2 V l := by
  cases A with
  | nil => exact .nil
  | emp a c => exact .emp a c
  | row b o c l ha => exact .row b o c l (ha.mono hs)
theorem Row.Sl.shape (A : K.Sl h V l) : ∃ P c, V = .slice P l.length c := by
  cases A <;> exact ⟨_, _, rfl⟩
theorem op_lenVS {x : Operand} {h0 : H} (A : K.Sl h0 V l) (hx : ev e x = some V) : opE (.lenV x) e h none = some (.int .i64 (l.length : Int), h) := by
  obtain ⟨P, c, rfl⟩ := A.shape
  simp only [opE, hx]
theorem WS.iaVS {x i : Operand} {k : IntKind} {h0 : H} {es : Nat} (A : K.Sl h0 V l) (j : Nat) {y : α} (hy : l[j]? = some y) (hg : gd e g = some true) (hx : ev e x = some V) (hi : ev e i = some (.int k (j : Int))) (hes : es = K.n)
    (w : ∀ b o, At h0 b o (K.cells y) → WS tab rb ss (put e d (.pointer (some ⟨b, o, none⟩))) h q) : WS tab rb (.op d g (.iaV es x i) :: ss) e h q := by
  subst hes
  have hj := (List.getElem?_eq_some_iff.1 hy).1
  cases A with
  | nil => simp at hj
  | emp a c => simp at hj
  | row b o c l ha => exact .op hg (op_iaV2 j hx hi hj) (w _ _ (ha.elem hy))
theorem Row.Sl.own {b c es : Nat} {ro : Bool} (hb : h.get b = some ⟨K.flat l, es, ro⟩) : K.Sl h (.slice (some ⟨b, 0, none⟩) l.length c) l :=
  .row b 0 c l ⟨_, hb, by simp, by simp⟩
variable (K)
inductive Row.Own : Value → List α → Seg → Prop
  | nil : Row.Own (.slice none 0 0) [] []
  | row (p : Nat) (l : List α) (hne : l ≠ []) : Row.Own (.slice (some ⟨p, 0, none⟩) l.length (2 * l.length)) l [(p, ⟨K.flat l, K.n, false⟩)]
structure Row.Src (h : H) (y : Value) (m : List α) : Prop where
  len : srcLen y = some m.length
  cells : srcCells h K.n m.length y = some (K.flat m)
variable {K} {m : List α} {y : Value}
theorem Row.Src.one {b c es : Nat} {ro : Bool} (hb : h.get b = some ⟨K.flat m, es, ro⟩) : K.Src h (.slice (some ⟨b, 0, none⟩) m.length c) m := by
  refine ⟨rfl, ?_⟩
  simp only [srcCells]
  rw [lds_at hb (by rw [K.flat_length]; simp), List.drop_zero, List.take_of_length_le (by rw [K.flat_length]; exact Nat.le_refl _)]
theorem Row.Own.sl {S : Seg} (O : K.Own V l S) (M : ∀ p ∈ S, h.get p.1 = some p.2) : K.Sl h V l := by
  cases O with
  | nil => exact .nil
  | row p l hne => exact .own (M _ (List.mem_singleton.2 rfl))
theorem Mem.own0 (M : Mem base h (S :: L) R) : ∀ p ∈ S, h.get p.1 = some p.2 := fun p hp => (M.own p (by simp only [List.flatten_cons, List.mem_append]; exact .inl hp)).1
theorem Mem.owni (M : Mem base h L R) (i : Nat) (hi : L[i]? = some S) : ∀ p ∈ S, h.get p.1 = some p.2 := fun p hp => (M.own p (mem_flatten hi hp)).1
theorem WS.app {S : Seg} {x z : Operand} {bytes es : Nat} (O : K.Own V l S) (M : Mem base h (S :: L) R) (A : K.Src h y m) (hes : es = K.n) (hb : (l.length + m.length) * bytes ≤ 140737488355328) (hn : l.length + m.length ≤ 1099511627776) (hg : gd e g = some true) (hx : ev e x = some V) (hy : ev e z = some y)
    (k : ∀ V' S' h1, K.Own V' (l ++ m) S' → Mem base h1 (S' :: L) R → WS tab rb ss (put e d V') h1 q) : WS tab rb (.op d g (.app es bytes x z) :: ss) e h q := by
  subst hes
  obtain ⟨a1, a2⟩ := A
  have hall := plain1_one (K.flat_plain m)
  cases O with
  | nil =>
    by_cases c : m = []
    · subst c
      refine .op hg (op_app hx hy (r := (.slice none 0 0, h)) ?_) (k _ [] _ .nil M)
      simp only [appE, a1, a2]; rfl
    · have hm : m.length ≠ 0 := fun e => c (List.eq_nil_of_length_eq_zero e)
      refine .op hg (op_app hx hy (r := (.slice (some ⟨h.next, 0, none⟩) m.length (2 * m.length), h.alloc ⟨K.flat m, K.n, false⟩)) ?_) (k _ _ _ (by rw [List.nil_append]; exact .row h.next m c) (Mem.perm (M.alloc _) (by simp)))
      simp only [appE, a1, a2]
      simp only [List.length_nil, Nat.zero_add] at hb hn
      rw [if_neg hm, if_pos ⟨hb, hn, hall⟩]; rfl
  | row p l hne =>
    have hg2 : h.get p = some ⟨K.flat l, K.n, false⟩ := M.own0 _ (List.mem_singleton.2 rfl)
    by_cases c : m = []
    · subst c
      refine .op hg (op_app hx hy (r := (.slice (some ⟨p, 0, none⟩) l.length (2 * l.length), h)) ?_) (k _ _ _ (by rw [List.append_nil]; exact .row p l hne) M)
      simp only [List.length_nil] at a1 a2
      simp only [appE, a1, a2, Nat.add_zero]
      rw [if_pos (by omega)]; rfl
    · have hm : m.length ≠ 0 := fun e => c (List.eq_nil_of_length_eq_zero e)
      have M2 := (Mem.free (S1 := []) (S2 := []) M).alloc ⟨K.flat (l ++ m), K.n, false⟩
      refine .op hg (op_app hx hy (r := (.slice (some ⟨h.next, 0, none⟩) (l.length + m.length) (2 * (l.length + m.length)), (h.set p none).alloc ⟨K.flat (l ++ m), K.n, false⟩)) ?_) (k _ [(h.next, ⟨K.flat (l ++ m), K.n, false⟩)] _ ?_ (Mem.perm M2 (by simp [H.next_set])))
      · simp only [appE, a1, a2]
        rw [if_neg (by omega), if_pos ⟨hb, hn, hall⟩, lds_at hg2 (by rw [K.flat_length]; simp)]
        simp only
        rw [if_neg (by omega)]
        simp only [hg2]
        rw [if_pos ⟨trivial, trivial, trivial⟩, List.drop_zero, List.take_of_length_le (by rw [K.flat_length]; exact Nat.le_refl _), K.flat_append]
      · have := Row.Own.row (K := K) h.next (l ++ m) (by simp [hne])
        rw [List.length_append] at this; exact this
theorem Row.Own.shape {S : Seg} (O : K.Own V l S) : ∃ P, V = .slice P l.length (2 * l.length) := by cases O <;> exact ⟨_, rfl⟩
theorem op_lenVO {x : Operand} {S : Seg} (O : K.Own V l S) (hx : ev e x = some V) : opE (.lenV x) e h none = some (.int .i64 (l.length : Int), h) := by
  obtain ⟨P, rfl⟩ := O.shape
  simp only [opE, hx]
end
def KBool : Row Bool := ⟨fun x => [.bool x], 1, fun _ => rfl, by decide, fun _ => rfl⟩
section
variable {α : Type} {K : Row α}
end
end Go.Proofs.Ytfcpokolbifilaa.Am
namespace Go.Proofs.Ytfcpokolbifilaa.Wt
open Go Go.Proofs.Ytfcpokolbifilaa.Am Go.Proofs.Ytfcpokolbifilaa.IrAll
set_option linter.unusedVariables false
set_option linter.unusedSimpArgs false
def hi (n : Nat) : List UInt8 := if h : n = 0 then [] else hi (n / 128) ++ [UInt8.ofNat (128 + n % 128)]
termination_by n
decreasing_by omega
theorem fdiv_nat (n k : Nat) : Int.fdiv (n : Int) (k : Int) = ((n / k : Nat) : Int) := by
  rw [Int.fdiv_eq_ediv_of_nonneg _ (by omega)]; rfl
def val (t : List UInt8) : Nat := t.foldl (fun n c => 128 * n + c.toNat % 128) 0
end Go.Proofs.Ytfcpokolbifilaa.Wt
namespace Go.Proofs.Ytfcpokolbifilaa.Wt
open Go Go.Proofs.Ytfcpokolbifilaa.Am
set_option linter.unusedVariables false
set_option linter.unusedSimpArgs false
section
structure SW (cm : Nat → Nat → Prop) : Prop where
  irr : ∀ x, ¬ cm x x
  tr : ∀ x y z, cm x y → cm y z → cm x z
  neg : ∀ x y z, ¬ cm x y → ¬ cm y z → ¬ cm x z
variable {cm : Nat → Nat → Prop}
theorem SW.asym (w : SW cm) {x y : Nat} (h : cm x y) : ¬ cm y x := fun h2 => w.irr x (w.tr x y x h h2)
theorem SW.le_lt (w : SW cm) {x y z : Nat} (h : ¬ cm y x) (h2 : cm y z) : cm x z := by
  apply Classical.byContradiction
  intro q
  exact w.neg y x z h q h2
theorem SW.lt_le (w : SW cm) {x y z : Nat} (h : cm x y) (h2 : ¬ cm z y) : cm x z := by
  apply Classical.byContradiction
  intro q
  exact w.neg x z y q h2 h
variable (cm) in
def Alike (d : List Nat) : Prop := d.Pairwise fun x y => ¬ cm x y → ¬ cm y x → x < y
variable (cm) in
def Sg (a b : Nat) (d e : List Nat) : Prop := e.length = d.length ∧ (∀ i, i < a ∨ b ≤ i → e[i]? = d[i]?) ∧ e.Perm d ∧ (Alike cm d → Alike cm e)
variable (cm) in
def Srt (a b : Nat) (d : List Nat) : Prop := ∀ i j x y, a ≤ i → i < j → j < b → d[i]? = some x → d[j]? = some y → ¬ cm y x
theorem Sg.refl {a b : Nat} {d : List Nat} : Sg cm a b d d := ⟨rfl, fun _ _ => rfl, List.Perm.refl _, id⟩
theorem Sg.trans {a b : Nat} {d e f : List Nat} (h1 : Sg cm a b d e) (h2 : Sg cm a b e f) : Sg cm a b d f :=
  ⟨h2.1.trans h1.1, fun i hi => (h2.2.1 i hi).trans (h1.2.1 i hi), h2.2.2.1.trans h1.2.2.1, fun q => h2.2.2.2 (h1.2.2.2 q)⟩
theorem Sg.mono {a b a2 b2 : Nat} {d e : List Nat} (h : Sg cm a b d e) (ha : a2 ≤ a) (hb : b ≤ b2) : Sg cm a2 b2 d e :=
  ⟨h.1, fun i hi => h.2.1 i (by omega), h.2.2⟩
theorem Srt.mono {a b a2 b2 : Nat} {d : List Nat} (h : Srt cm a b d) (ha : a ≤ a2) (hb : b2 ≤ b) : Srt cm a2 b2 d := fun i j x y h1 h2 h3 => h i j x y (by omega) h2 (by omega)
theorem Srt.keep {a b : Nat} {d e : List Nat} (h : Srt cm a b d) (he : ∀ i, a ≤ i → i < b → e[i]? = d[i]?) : Srt cm a b e := fun i j x y h1 h2 h3 hx hy => h i j x y h1 h2 h3 (by rw [← he i h1 (by omega)]; exact hx) (by rw [← he j (by omega) h3]; exact hy)
theorem Srt.small {a b : Nat} {d : List Nat} (h : b ≤ a + 1) : Srt cm a b d := fun i j x y h1 h2 h3 => by omega
theorem sg_rot {P X Y Q : List Nat} (h : ∀ x ∈ X, ∀ y ∈ Y, cm y x) : Sg cm P.length (P.length + X.length + Y.length) (P ++ (X ++ (Y ++ Q))) (P ++ (Y ++ (X ++ Q))) := by
  refine ⟨by simp; omega, fun i hi => ?_, ?_, fun q => ?_⟩
  · rcases hi with hi | hi
    · rw [List.getElem?_append_left hi, List.getElem?_append_left hi]
    · rw [List.getElem?_append_right (by omega), List.getElem?_append_right (by omega), List.getElem?_append_right (by omega), List.getElem?_append_right (by omega), List.getElem?_append_right (by omega), List.getElem?_append_right (by omega)]
      congr 1; omega
  · apply List.Perm.append_left
    rw [← List.append_assoc, ← List.append_assoc]
    exact (List.perm_append_comm).append_right _
  · unfold Alike at q ⊢
    simp only [List.pairwise_append, List.mem_append] at q ⊢
    obtain ⟨q1, ⟨q2, ⟨q3, q4, q5⟩, q6⟩, q7⟩ := q
    refine ⟨q1, ⟨q3, ⟨q2, q4, fun x hx z hz => q6 x hx z (.inr hz)⟩, fun y hy z hz => ?_⟩, fun p hp z hz => ?_⟩
    · rcases hz with hz | hz
      · intro n1 _; exact absurd (h z hz y hy) n1
      · exact q5 y hy z hz
    · rcases hz with hz | hz | hz
      · exact q7 p hp z (.inr (.inl hz))
      · exact q7 p hp z (.inl hz)
      · exact q7 p hp z (.inr (.inr hz))
theorem cut3 (d : List Nat) {a m b : Nat} (h1 : a ≤ m) (h2 : m ≤ b) (h3 : b ≤ d.length) : ∃ P X Y Q, d = P ++ (X ++ (Y ++ Q)) ∧ P.length = a ∧ X.length = m - a ∧ Y.length = b - m := by
  refine ⟨d.take a, (d.drop a).take (m - a), (d.drop m).take (b - m), d.drop b, ?_, ?_, ?_, ?_⟩
  · have e1 : d.drop m = (d.drop m).take (b - m) ++ d.drop b := by
      conv => lhs; rw [← List.take_append_drop (b - m) (d.drop m)]
      rw [List.drop_drop, show m + (b - m) = b by omega]
    have e2 : d.drop a = (d.drop a).take (m - a) ++ d.drop m := by
      conv => lhs; rw [← List.take_append_drop (m - a) (d.drop a)]
      rw [List.drop_drop, show a + (m - a) = m by omega]
    rw [← e1, ← e2, List.take_append_drop]
  · simp; omega
  · simp; omega
  · simp; omega
theorem mid_get {P X Z : List Nat} {i : Nat} (h : i < X.length) : (P ++ (X ++ Z))[P.length + i]? = X[i]? := by
  rw [List.getElem?_append_right (by omega), List.getElem?_append_left (by omega)]; congr 1; omega
theorem swap_at {A B : List Nat} {x y : Nat} : ((A ++ x :: y :: B).set A.length y).set (A.length + 1) x = A ++ y :: x :: B := by
  rw [List.set_append_right _ _ (by omega), List.set_append_right _ _ (by omega)]
  simp
theorem mem_seg {d P X Z : List Nat} {x : Nat} (hd : d = P ++ (X ++ Z)) (hx : x ∈ X) : ∃ i, P.length ≤ i ∧ i < P.length + X.length ∧ d[i]? = some x := by
  obtain ⟨j, hj, rfl⟩ := List.mem_iff_getElem.1 hx
  exact ⟨P.length + j, by omega, by omega, by rw [hd, mid_get hj]; exact List.getElem?_eq_getElem hj⟩
end
end Go.Proofs.Ytfcpokolbifilaa.Wt
namespace Go.Proofs.Ytfcpokolbifilaa.Wt
open Go Go.Proofs.Ytfcpokolbifilaa.Am Go.Proofs.Ytfcpokolbifilaa.IrAll
open Go.Proofs.Ytfcpokolbifilaa.Am.WS renaming op → C
open Go.Proofs.Ytfcpokolbifilaa.Am.WC renaming seq → D
open Go.Proofs.Ytfcpokolbifilaa.Am.WS renaming nil → F
open Go.Proofs.Ytfcpokolbifilaa.Am.WC renaming run → G
set_option linter.unusedVariables false
set_option linter.unusedSimpArgs false
structure JOp where
  ak : Int64
  tl : Int64
  pl : UInt64
  rd : Bool
  deriving DecidableEq
def JOp.cells (x : JOp) : List Value := [(.int .i64 (x.ak).toInt), (.int .i64 (x.tl).toInt), (.int .u64 (((x.pl).toNat : Nat) : Int)), (.bool x.rd)]
def KJOp : Row JOp := ⟨JOp.cells, 4, fun _ => rfl, by decide, fun _ => rfl⟩
variable {h base : H} {L : List Seg} {R : List Nat}
def KNi : Row Nat := ⟨fun n => [.int .i64 (n : Int)], 1, fun _ => rfl, by decide, fun _ => rfl⟩
def sgn (x y : Int) : Int := if x < y then -1 else if y < x then 1 else 0
def lateZ (y : JOp) : Int := if y.rd then 1 else 0
def or2 (x y : Int) : Int := if x ≠ 0 then x else y
def cmpZ (a b : JOp) : Int := if or2 (sgn ((a.pl.toNat : Nat) : Int) ((b.pl.toNat : Nat) : Int)) (sgn (lateZ a) (lateZ b)) ≠ 0 ∨ a.rd = false then or2 (sgn ((a.pl.toNat : Nat) : Int) ((b.pl.toNat : Nat) : Int)) (sgn (lateZ a) (lateZ b)) else or2 (sgn a.tl.toInt b.tl.toInt) (sgn a.ak.toInt b.ak.toInt)
theorem nanU_ran (W : Mem h h [] []) {x : Nat} : Cll tab0 27 [.int .u64 (x : Int)] h (fun v h2 => v = .bool false ∧ Mem h h2 [] []) := by
  refine Cll.code rfl rfl ?_
  refine WC.env [(0, _)] rfl ?_
  refine D (G (C rfl rfl (F [(0, _)] rfl ?_)))
  refine D (G (C rfl rfl (C rfl rfl ?_)))
  refine WS.neqN (a := x) (b := x) rfl rfl rfl (fun e5 => ?_) (fun e5 => ?_)
  ·
   exact absurd rfl e5
  ·
   refine C rfl rfl (F [(2, _)] rfl ?_)
   refine WC.ret (⟨[_], (res_tmp rfl res_nil), ?_⟩)
   exact ⟨rfl, W.bare.take 0⟩
theorem nanI_ran (W : Mem h h [] []) {x : Int} : Cll tab0 28 [.int .i64 x] h (fun v h2 => v = .bool false ∧ Mem h h2 [] []) := by
  refine Cll.code rfl rfl ?_
  refine WC.env [(0, _)] rfl ?_
  refine D (G (C rfl rfl (F [(0, _)] rfl ?_)))
  refine D (G (C rfl rfl (C rfl rfl ?_)))
  refine WS.neq (a := x) (b := x) rfl rfl rfl (fun e5 => ?_) (fun e5 => ?_)
  ·
   exact absurd rfl e5
  ·
   refine C rfl rfl (F [(2, _)] rfl ?_)
   refine WC.ret (⟨[_], (res_tmp rfl res_nil), ?_⟩)
   exact ⟨rfl, W.bare.take 0⟩
theorem cmpU_ran (W : Mem h h [] []) {x y : Nat} : Cll tab0 22 [.int .u64 (x : Int), .int .u64 (y : Int)] h (fun v h2 => v = .int .i64 (sgn (x : Int) (y : Int)) ∧ Mem h h2 [] []) := by
  refine Cll.code rfl rfl ?_
  refine WC.env [(0, _), (1, _)] rfl ?_
  refine D (G (C rfl rfl (F [(0, _), (1, _)] rfl ?_)))
  refine D (G (C rfl rfl ?_))
  refine WS.call rfl rfl rfl (nanU_ran W.here (x := x)) ?_
  rintro _ h1 ⟨rfl, N2⟩
  have M3 := W.trans N2
  refine C rfl rfl (F [(0, _), (1, _), (5, _)] rfl ?_)
  refine D (G (C rfl rfl ?_))
  refine WS.call rfl rfl rfl (nanU_ran M3.here (x := y)) ?_
  rintro _ h4 ⟨rfl, N5⟩
  have M6 := M3.trans N5
  refine C rfl rfl (F [(0, _), (1, _), (5, _), (6, _)] rfl ?_)
  refine D (D (G (C rfl rfl (F [(0, _), (1, _), (6, _), (11, _)] rfl ?_))))
  refine WC.condF rfl (WC.skip (D (D (G (C rfl rfl (F [(0, _), (1, _), (13, _)] rfl ?_))))))
  refine WC.condF rfl (WC.skip (D (D (G (C rfl rfl (C rfl rfl ?_))))))
  refine WS.lssN (a := x) (b := y) rfl rfl rfl (fun e16 => ?_) (fun e16 => ?_)
  ·
   refine F [(0, _), (1, _), (16, _)] rfl ?_
   refine WC.condT rfl (D (G (C rfl rfl (F [(4, _)] rfl ?_))))
   refine WC.ret (⟨[_], (res_tmp rfl res_nil), ?_⟩)
   refine ⟨?_, M6.bare.take 0⟩
   show Value.int .i64 (-1) = _
   unfold sgn
   rw [if_pos (by omega)]
  ·
   refine F [(0, _), (1, _), (16, _)] rfl ?_
   refine WC.condF rfl (WC.skip (D (D (G (C rfl rfl (C rfl rfl ?_))))))
   refine WS.gtrN (a := x) (b := y) rfl rfl rfl (fun e19 => ?_) (fun e19 => ?_)
   ·
    refine F [(19, _)] rfl ?_
    refine WC.condT rfl (D (G (C rfl rfl (F [(4, _)] rfl ?_))))
    refine WC.ret (⟨[_], (res_tmp rfl res_nil), ?_⟩)
    refine ⟨?_, M6.bare.take 0⟩
    show Value.int .i64 (1) = _
    unfold sgn
    rw [if_neg (by omega), if_pos (by omega)]
   ·
    refine F [(19, _)] rfl ?_
    refine WC.condF rfl (WC.skip (D (G (C rfl rfl (F [(4, _)] rfl ?_)))))
    refine WC.ret (⟨[_], (res_tmp rfl res_nil), ?_⟩)
    refine ⟨?_, M6.bare.take 0⟩
    show Value.int .i64 (0) = _
    unfold sgn
    rw [if_neg (by omega), if_neg (by omega)]
theorem cmpI_ran (W : Mem h h [] []) {x y : Int} : Cll tab0 23 [.int .i64 x, .int .i64 y] h (fun v h2 => v = .int .i64 (sgn x y) ∧ Mem h h2 [] []) := by
  refine Cll.code rfl rfl ?_
  refine WC.env [(0, _), (1, _)] rfl ?_
  refine D (G (C rfl rfl (F [(0, _), (1, _)] rfl ?_)))
  refine D (G (C rfl rfl ?_))
  refine WS.call rfl rfl rfl (nanI_ran W.here (x := x)) ?_
  rintro _ h1 ⟨rfl, N2⟩
  have M3 := W.trans N2
  refine C rfl rfl (F [(0, _), (1, _), (5, _)] rfl ?_)
  refine D (G (C rfl rfl ?_))
  refine WS.call rfl rfl rfl (nanI_ran M3.here (x := y)) ?_
  rintro _ h4 ⟨rfl, N5⟩
  have M6 := M3.trans N5
  refine C rfl rfl (F [(0, _), (1, _), (5, _), (6, _)] rfl ?_)
  refine D (D (G (C rfl rfl (F [(0, _), (1, _), (6, _), (11, _)] rfl ?_))))
  refine WC.condF rfl (WC.skip (D (D (G (C rfl rfl (F [(0, _), (1, _), (13, _)] rfl ?_))))))
  refine WC.condF rfl (WC.skip (D (D (G (C rfl rfl (C rfl rfl ?_))))))
  refine WS.lss (a := x) (b := y) rfl rfl rfl (fun e16 => ?_) (fun e16 => ?_)
  ·
   refine F [(0, _), (1, _), (16, _)] rfl ?_
   refine WC.condT rfl (D (G (C rfl rfl (F [(4, _)] rfl ?_))))
   refine WC.ret (⟨[_], (res_tmp rfl res_nil), ?_⟩)
   refine ⟨?_, M6.bare.take 0⟩
   show Value.int .i64 (-1) = _
   unfold sgn
   rw [if_pos (by omega)]
  ·
   refine F [(0, _), (1, _), (16, _)] rfl ?_
   refine WC.condF rfl (WC.skip (D (D (G (C rfl rfl (C rfl rfl ?_))))))
   refine WS.gtr (a := x) (b := y) rfl rfl rfl (fun e19 => ?_) (fun e19 => ?_)
   ·
    refine F [(19, _)] rfl ?_
    refine WC.condT rfl (D (G (C rfl rfl (F [(4, _)] rfl ?_))))
    refine WC.ret (⟨[_], (res_tmp rfl res_nil), ?_⟩)
    refine ⟨?_, M6.bare.take 0⟩
    show Value.int .i64 (1) = _
    unfold sgn
    rw [if_neg (by omega), if_pos (by omega)]
   ·
    refine F [(19, _)] rfl ?_
    refine WC.condF rfl (WC.skip (D (G (C rfl rfl (F [(4, _)] rfl ?_)))))
    refine WC.ret (⟨[_], (res_tmp rfl res_nil), ?_⟩)
    refine ⟨?_, M6.bare.take 0⟩
    show Value.int .i64 (0) = _
    unfold sgn
    rw [if_neg (by omega), if_neg (by omega)]
theorem late_ran (W : Mem h h [] []) {y : JOp} : Cll tab0 24 [.agg (JOp.cells y).toArray] h (fun v h2 => v = .int .i64 (lateZ y) ∧ Mem h h2 [] []) := by
  refine Cll.code rfl rfl ?_
  refine WC.env [(0, _)] rfl ?_
  refine D (G (WS.box W [_, _, _, _] rfl rfl rfl rfl ?_))
  intro p1 h2 M3
  refine C rfl rfl (F [(1, _)] rfl ?_)
  refine D (D (G (C rfl rfl (C rfl (op_ld (M3.at 0 rfl) rfl rfl) (F [(4, _)] rfl ?_)))))
  cases hb1 : y.rd
  ·
   refine WC.condF rfl (WC.skip (D (G (C rfl rfl (F [(2, _)] rfl ?_)))))
   refine WC.ret (⟨[_], (res_tmp rfl res_nil), ?_⟩)
   exact ⟨by unfold lateZ; rw [show y.rd = false by assumption]; rfl, M3.bare.take 0⟩
  ·
   refine WC.condT rfl (D (G (C rfl rfl (F [(2, _)] rfl ?_))))
   refine WC.ret (⟨[_], (res_tmp rfl res_nil), ?_⟩)
   exact ⟨by unfold lateZ; rw [show y.rd = true by assumption]; rfl, M3.bare.take 0⟩
theorem or_ran (W : Mem h h [] []) {z1 z2 : Int} {b e : Nat} {ro : Bool} (hb : h.get b = some ⟨[.int .i64 z1, .int .i64 z2], e, ro⟩) : Cll tab0 21 [.slice (some ⟨b, 0, none⟩) 2 5] h (fun v h2 => v = .int .i64 (or2 z1 z2) ∧ Mem h h2 [] []) := by
  refine Cll.code rfl rfl ?_
  refine WC.env [(0, _)] rfl ?_
  refine D (G (C rfl rfl (F [(0, _)] rfl ?_)))
  refine D (G (C rfl rfl (F [(0, _), (3, _)] rfl ?_)))
  refine D (D (G (C rfl rfl (C rfl rfl (C rfl rfl (F [(3, _), (6, _), (7, _), (8, _)] rfl ?_))))))
  refine WC.block (WC.unroll [(3, _), (6, _), (7, _), (8, _)] rfl ?_)
  refine D (G (WS.opV (.bool true) rfl rfl rfl (F [(3, _), (6, _), (7, _), (8, _), (9, _)] rfl ?_)))
  refine D (WC.condT rfl (WC.skip (D (WC.block (D (G (C rfl rfl (C rfl (op_ld (W.sub _ _ hb) rfl rfl) (C rfl rfl (F [(3, _), (5, _), (6, _), (7, _), (8, _)] rfl ?_))))))))))
  refine D (G (C rfl rfl (C rfl rfl ?_)))
  refine WS.neq (a := z1) (b := (0 : Int)) rfl rfl rfl (fun e14 => ?_) (fun e14 => ?_)
  ·
   refine F [(3, _), (5, _), (6, _), (7, _), (8, _), (14, _)] rfl ?_
   refine WC.condT rfl (D (G (C rfl rfl (C rfl rfl (F [(2, _)] rfl ?_)))))
   refine WC.ret (⟨[_], (res_tmp rfl res_nil), ?_⟩)
   refine ⟨?_, W.bare.take 0⟩
   show Value.int .i64 (z1) = _
   congr 1
   unfold or2
   split <;> omega
  ·
   refine F [(3, _), (5, _), (6, _), (7, _), (8, _), (14, _)] rfl ?_
   refine WC.condF rfl (WC.skip (G (WS.opV (.int .i64 1) rfl rfl rfl (C rfl rfl (F [(3, _), (6, _), (7, _), (8, _)] rfl ?_)))))
   refine WC.unroll [(3, _), (6, _), (7, _), (8, _)] rfl ?_
   refine D (G (WS.opV (.bool true) rfl rfl rfl (F [(3, _), (6, _), (7, _), (8, _), (9, _)] rfl ?_)))
   refine D (WC.condT rfl (WC.skip (D (WC.block (D (G (C rfl rfl (C rfl (op_ld (W.sub _ _ hb) rfl rfl) (C rfl rfl (F [(3, _), (5, _), (6, _), (7, _), (8, _)] rfl ?_))))))))))
   refine D (G (C rfl rfl (C rfl rfl ?_)))
   refine WS.neq (a := z2) (b := (0 : Int)) rfl rfl rfl (fun e14 => ?_) (fun e14 => ?_)
   ·
    refine F [(3, _), (5, _), (6, _), (7, _), (8, _), (14, _)] rfl ?_
    refine WC.condT rfl (D (G (C rfl rfl (C rfl rfl (F [(2, _)] rfl ?_)))))
    refine WC.ret (⟨[_], (res_tmp rfl res_nil), ?_⟩)
    refine ⟨?_, W.bare.take 0⟩
    show Value.int .i64 (z2) = _
    congr 1
    unfold or2
    split <;> omega
   ·
    refine F [(3, _), (5, _), (6, _), (7, _), (8, _), (14, _)] rfl ?_
    refine WC.condF rfl (WC.skip (G (WS.opV (.int .i64 2) rfl rfl rfl (C rfl rfl (F [(3, _), (6, _), (7, _), (8, _)] rfl ?_)))))
    refine WC.unroll [(3, _), (6, _), (7, _), (8, _)] rfl ?_
    refine D (G (WS.opV (.bool false) rfl rfl rfl (F [(3, _), (6, _), (7, _), (8, _), (9, _)] rfl ?_)))
    refine D (WC.condF rfl (WC.exit ?_))
    refine D (G (C rfl rfl (C rfl rfl (F [(2, _)] rfl ?_))))
    refine WC.ret (⟨[_], (res_tmp rfl res_nil), ?_⟩)
    refine ⟨?_, W.bare.take 0⟩
    show Value.int .i64 (0) = _
    congr 1
    unfold or2
    split <;> omega
theorem compare_ran (W : Mem h h [] []) {a b : JOp} : Cll tab0 19 [.agg (JOp.cells a).toArray, .agg (JOp.cells b).toArray] h (fun v h2 => v = .int .i64 (cmpZ a b) ∧ Mem h h2 [] []) := by
  refine Cll.code rfl rfl ?_
  refine WC.env [(0, _), (1, _)] rfl ?_
  refine D (G (WS.box W [_, _, _, _] rfl rfl rfl rfl ?_))
  intro p1 h2 M3
  refine WS.box M3 [_, _, _, _] rfl rfl rfl rfl ?_
  intro p4 h5 M6
  refine C rfl rfl (F [(2, _), (3, _)] rfl ?_)
  refine D (WC.draw M6 [10] rfl ?_)
  intro rb7 h8 M9
  refine C rfl rfl (C rfl (op_ld (M9.at 1 rfl) rfl rfl) (C rfl rfl (C rfl (op_ld (M9.at 0 rfl) rfl rfl) (C rfl (op_lds [_, _, _, _] (M9.at 1 rfl) rfl (Nat.le_of_ble_eq_true rfl) rfl) (C rfl (op_lds [_, _, _, _] (M9.at 0 rfl) rfl (Nat.le_of_ble_eq_true rfl) rfl) ?_)))))
  refine WS.call rfl rfl rfl (cmpU_ran M9.here (x := ((a.pl).toNat)) (y := ((b.pl).toNat))) ?_
  rintro _ h10 ⟨rfl, N11⟩
  have M12 := M9.trans N11
  refine WS.chk rfl (op_lds [_, _, _, _] (M12.at 1 rfl) rfl (Nat.le_of_ble_eq_true rfl) rfl) rfl (sameV_refl rfl) (WS.chk rfl (op_lds [_, _, _, _] (M12.at 0 rfl) rfl (Nat.le_of_ble_eq_true rfl) rfl) rfl (sameV_refl rfl) ?_)
  refine WS.call rfl rfl rfl (late_ran M12.here (y := a)) ?_
  rintro _ h13 ⟨rfl, N14⟩
  have M15 := M12.trans N14
  refine WS.chk rfl (op_lds [_, _, _, _] (M15.at 0 rfl) rfl (Nat.le_of_ble_eq_true rfl) rfl) rfl (sameV_refl rfl) ?_
  refine WS.call rfl rfl rfl (late_ran M15.here (y := b)) ?_
  rintro _ h16 ⟨rfl, N17⟩
  have M18 := M15.trans N17
  refine WS.call rfl rfl rfl (cmpI_ran M18.here (x := (lateZ a)) (y := (lateZ b))) ?_
  rintro _ h19 ⟨rfl, N20⟩
  have M21 := M18.trans N20
  refine WS.bslA M21 [_, _] 0 rfl rfl rfl rfl rfl ?_
  intro h23 M24
  refine WS.call rfl rfl rfl (or_ran M24.here (z1 := (sgn (((a.pl).toNat : Nat) : Int) (((b.pl).toNat : Nat) : Int))) (z2 := (sgn (lateZ a) (lateZ b))) (M24.at 0 rfl)) ?_
  rintro _ h25 ⟨rfl, N26⟩
  have M27 := M24.trans N26
  refine C rfl rfl (F [(2, _), (3, _), (5, _)] rfl ?_)
  refine D (D (G (C rfl rfl ?_)))
  refine WS.neq (a := (or2 (sgn (((a.pl).toNat : Nat) : Int) (((b.pl).toNat : Nat) : Int)) (sgn (lateZ a) (lateZ b)))) (b := (0 : Int)) rfl rfl rfl (fun e19 => ?_) (fun e19 => ?_)
  ·
   refine C rfl rfl (WS.off rfl (WS.off rfl (WS.off rfl (C rfl rfl (F [(2, _), (3, _), (5, _), (24, _)] rfl ?_)))))
   refine WC.condT rfl (D (G (C rfl rfl (C rfl rfl (F [(4, _)] rfl ?_)))))
   refine WC.ret (⟨[_], (res_tmp rfl res_nil), ?_⟩)
   exact ⟨by unfold cmpZ; rw [if_pos (.inl e19)]; rfl, M27.bare.bare.take 0⟩
  ·
   refine C rfl rfl (C rfl rfl (C rfl (op_ld (M27.bare.at 2 rfl) rfl rfl) ?_))
   cases hb1 : a.rd
   ·
    refine WS.opV (.bool true) rfl rfl rfl (C rfl rfl (F [(2, _), (3, _), (5, _), (24, _)] rfl ?_))
    refine WC.condT rfl (D (G (C rfl rfl (C rfl rfl (F [(4, _)] rfl ?_)))))
    refine WC.ret (⟨[_], (res_tmp rfl res_nil), ?_⟩)
    exact ⟨by unfold cmpZ; rw [if_pos (.inr (by assumption))]; rfl, M27.bare.bare.take 0⟩
   ·
    refine WS.opV (.bool false) rfl rfl rfl (C rfl rfl (F [(2, _), (3, _), (5, _), (24, _)] rfl ?_))
    refine WC.condF rfl (WC.skip (D (WC.draw M27.bare [10] rfl ?_)))
    intro rb28 h29 M30
    refine C rfl rfl (C rfl (op_ld (M30.at 2 rfl) rfl rfl) (C rfl rfl (C rfl (op_ld (M30.at 1 rfl) rfl rfl) (C rfl rfl (C rfl (op_ld (M30.at 2 rfl) rfl rfl) (C rfl rfl (C rfl (op_ld (M30.at 1 rfl) rfl rfl) ?_)))))))
    refine WS.call rfl rfl rfl (cmpI_ran M30.here (x := ((a.tl).toInt)) (y := ((b.tl).toInt))) ?_
    rintro _ h31 ⟨rfl, N32⟩
    have M33 := M30.trans N32
    refine WS.chk rfl (op_ld (M33.at 2 rfl) rfl rfl) rfl (sameV_refl rfl) (WS.chk rfl (op_ld (M33.at 1 rfl) rfl rfl) rfl (sameV_refl rfl) ?_)
    refine WS.call rfl rfl rfl (cmpI_ran M33.here (x := ((a.ak).toInt)) (y := ((b.ak).toInt))) ?_
    rintro _ h34 ⟨rfl, N35⟩
    have M36 := M33.trans N35
    refine WS.bslA M36 [_, _] 0 rfl rfl rfl rfl rfl ?_
    intro h38 M39
    refine WS.call rfl rfl rfl (or_ran M39.here (z1 := (sgn ((a.tl).toInt) ((b.tl).toInt))) (z2 := (sgn ((a.ak).toInt) ((b.ak).toInt))) (M39.at 0 rfl)) ?_
    rintro _ h40 ⟨rfl, N41⟩
    have M42 := M39.trans N41
    refine C rfl rfl (F [(4, _)] rfl ?_)
    refine WC.ret (⟨[_], (res_tmp rfl res_nil), ?_⟩)
    exact ⟨by unfold cmpZ; rw [if_neg (by rintro (q | q); exact q e19; (rw [show a.rd = true by assumption] at q; cases q))]; rfl, M42.bare.bare.take 0⟩
def kLt (a b : JOp) : Prop := a.pl.toNat < b.pl.toNat ∨ (a.pl.toNat = b.pl.toNat ∧ (lateZ a < lateZ b ∨ (lateZ a = lateZ b ∧ lateZ a = 1 ∧ (a.tl.toInt < b.tl.toInt ∨ (a.tl.toInt = b.tl.toInt ∧ a.ak.toInt < b.ak.toInt)))))
instance (a b : JOp) : Decidable (kLt a b) := by unfold kLt; infer_instance
theorem sgn_lt {x y : Int} : sgn x y < 0 ↔ x < y := by unfold sgn; split <;> (try split) <;> omega
theorem sgn_eq {x y : Int} : sgn x y = 0 ↔ x = y := by unfold sgn; split <;> (try split) <;> omega
theorem or2_lt {x y : Int} : or2 x y < 0 ↔ x < 0 ∨ (x = 0 ∧ y < 0) := by unfold or2; split <;> omega
theorem or2_eq {x y : Int} : or2 x y = 0 ↔ x = 0 ∧ y = 0 := by unfold or2; split <;> omega
theorem late_01 (a : JOp) : (a.rd = true ∧ lateZ a = 1) ∨ (a.rd = false ∧ lateZ a = 0) := by
  unfold lateZ; cases a.rd <;> simp
theorem cmpZ_lt {a b : JOp} : cmpZ a b < 0 ↔ kLt a b := by
  have h1 := or2_lt (x := sgn ((a.pl.toNat : Nat) : Int) ((b.pl.toNat : Nat) : Int)) (y := sgn (lateZ a) (lateZ b))
  have h2 := or2_eq (x := sgn ((a.pl.toNat : Nat) : Int) ((b.pl.toNat : Nat) : Int)) (y := sgn (lateZ a) (lateZ b))
  rw [sgn_lt, sgn_lt, sgn_eq] at h1
  rw [sgn_eq, sgn_eq] at h2
  have h3 := or2_lt (x := sgn a.tl.toInt b.tl.toInt) (y := sgn a.ak.toInt b.ak.toInt)
  rw [sgn_lt, sgn_lt, sgn_eq] at h3
  unfold cmpZ kLt
  by_cases c : or2 (sgn ((a.pl.toNat : Nat) : Int) ((b.pl.toNat : Nat) : Int)) (sgn (lateZ a) (lateZ b)) ≠ 0 ∨ a.rd = false
  · rw [if_pos c]
    rcases late_01 a with ⟨la, lb⟩ | ⟨la, lb⟩
    · have c2 : or2 (sgn ((a.pl.toNat : Nat) : Int) ((b.pl.toNat : Nat) : Int)) (sgn (lateZ a) (lateZ b)) ≠ 0 := by
        rcases c with c | c
        · exact c
        · rw [la] at c; cases c
      rw [h1]; omega
    · rw [h1]; omega
  · rw [if_neg c]
    have c2 : or2 (sgn ((a.pl.toNat : Nat) : Int) ((b.pl.toNat : Nat) : Int)) (sgn (lateZ a) (lateZ b)) = 0 := by
      apply Classical.byContradiction; intro q; exact c (.inl q)
    rcases late_01 a with ⟨la, lb⟩ | ⟨la, lb⟩
    · rw [h3]; omega
    · exact absurd (.inr la) c
def zeroOp : JOp := ⟨0, 0, 0, false⟩
def cmL (l : List JOp) (i j : Nat) : Prop := kLt (l.getD i zeroOp) (l.getD j zeroOp)
theorem cmL_sw (l : List JOp) : SW (cmL l) := by
  refine ⟨fun x => ?_, fun x y z => ?_, fun x y z => ?_⟩
  · unfold cmL kLt; omega
  · unfold cmL kLt; generalize l.getD x zeroOp = a; generalize l.getD y zeroOp = b; generalize l.getD z zeroOp = c; intro h1 h2; omega
  · unfold cmL kLt; generalize l.getD x zeroOp = a; generalize l.getD y zeroOp = b; generalize l.getD z zeroOp = c; intro h1 h2; omega
theorem getD_of {l : List JOp} {i : Nat} {a : JOp} (h : l[i]? = some a) : l.getD i zeroOp = a := by
  rw [List.getD_eq_getElem?_getD, h]; rfl
theorem cmF_ran (W : Mem h h [] []) {V : Value} {l : List JOp} {p i1 j1 : Nat} (A : KJOp.Sl h V l) (hp : h.get p = some ⟨[V], 0, false⟩) (hx : i1 < l.length) (hy : j1 < l.length) : Cll tab0 18 [.int .i64 (i1 : Int), .int .i64 (j1 : Int), .pointer (some ⟨p, 0, none⟩)] h (fun v h2 => ∃ z : Int, v = .int .i64 z ∧ (z < 0 ↔ cmL l i1 j1) ∧ Mem h h2 [] []) := by
  obtain ⟨Pl, nl, rfl⟩ := A.shape
  refine Cll.code rfl rfl ?_
  refine WC.env [(0, _), (1, _), (2, _)] rfl ?_
  refine D (G (C rfl rfl (F [(0, _), (1, _), (2, _)] rfl ?_)))
  refine D (WC.draw W [] rfl ?_)
  intro rb1 h2 M3
  refine C rfl (op_ld (M3.sub _ _ hp) rfl rfl) (C rfl rfl ?_)
  obtain ⟨y8, hy8⟩ : ∃ y, (l)[i1]? = some y := ⟨_, List.getElem?_eq_getElem (show i1 < (l).length by first | omega | (simp only [List.length_drop, List.length_take, List.length_append, List.length_cons, List.length_nil, List.length_singleton]; omega) | (simp only [List.length_drop, List.length_take, List.length_append, List.length_cons, List.length_nil, List.length_singleton] at *; omega))⟩
  refine WS.iaVS A i1 hy8 rfl rfl rfl rfl ?_
  intro b8_ o8_ ha8
  refine C rfl (op_ldAt rfl (ha8.mono M3.sub) rfl) (C rfl (op_ld (M3.sub _ _ hp) rfl rfl) (C rfl rfl ?_))
  obtain ⟨y12, hy12⟩ : ∃ y, (l)[j1]? = some y := ⟨_, List.getElem?_eq_getElem (show j1 < (l).length by first | omega | (simp only [List.length_drop, List.length_take, List.length_append, List.length_cons, List.length_nil, List.length_singleton]; omega) | (simp only [List.length_drop, List.length_take, List.length_append, List.length_cons, List.length_nil, List.length_singleton] at *; omega))⟩
  refine WS.iaVS A j1 hy12 rfl rfl rfl rfl ?_
  intro b12_ o12_ ha12
  refine C rfl (op_ldAt rfl (ha12.mono M3.sub) rfl) ?_
  refine WS.call rfl rfl rfl (compare_ran M3.here (a := y8) (b := y12)) ?_
  rintro _ h4 ⟨rfl, N5⟩
  have M6 := M3.trans N5
  refine C rfl rfl (F [(5, _)] rfl ?_)
  refine WC.ret (⟨[_], (res_tmp rfl res_nil), ?_⟩)
  exact ⟨_, rfl, by rw [cmpZ_lt]; unfold cmL; rw [getD_of hy8, getD_of hy12], M6.bare.bare.take 0⟩
end Go.Proofs.Ytfcpokolbifilaa.Wt
namespace Go.Proofs.Ytfcpokolbifilaa.Am
open Go
set_option linter.unusedVariables false
set_option linter.unusedSimpArgs false
section
variable {base h h1 h2 h3 : H} {L L' : List Seg} {R : List Nat} {S : Seg}
variable {tab : Nat → Option FD} {Q : Ex → Env → H → Prop} {q : Env → H → Prop} {e e2 : Env}
variable {rb : Nat} {ss : List Step} {d : Option Nat} {g : Option (Nat × Bool)}
variable {α : Type} {K : Row α} {V y : Value} {l m : List α}
variable (K) in
theorem splice_flat {l m j : List α} (hm : m.length ≤ j.length) : splice (K.flat (l ++ j)) (l.length * K.n) (K.flat m) = K.flat (l ++ m ++ j.drop m.length) := by
  have e1 : l.length * K.n = (K.flat l).length := by rw [K.flat_length]
  have e2 : (K.flat m).length = (K.flat (j.take m.length)).length := by rw [K.flat_length, K.flat_length, List.length_take]; congr 1; omega
  have e3 : K.flat j = K.flat (j.take m.length) ++ K.flat (j.drop m.length) := by rw [← K.flat_append, List.take_append_drop]
  unfold splice
  rw [e1, K.flat_append, List.take_left, ← List.drop_drop, List.drop_left, e2, e3, List.drop_left, K.flat_append, K.flat_append]
theorem Row.flat_setN {l : List α} {j : Nat} {y' : α} (hj : j < l.length) : splice (K.flat l) (j * K.n) (K.cells y') = K.flat (l.set j y') := by
  have h1 := splice_flat (K := K) (l := l.take j) (m := [y']) (j := l.drop j) (by simp; omega)
  rw [List.take_append_drop, List.length_take, Nat.min_eq_left (by omega)] at h1
  rw [show K.cells y' = K.flat [y'] by simp [Row.flat], h1, List.set_eq_take_append_cons_drop, if_pos hj, List.drop_drop]
  simp
theorem WS.stN {p j es n : Nat} {l : List α} {y' : α} {v : Value} {x z : Operand} (M : Mem base h ([(p, ⟨K.flat l, es, false⟩)] :: L) R) (hj : j < l.length) (hg : gd e g = some true) (hx : ev e x = some (.pointer (some ⟨p, 0 + j * K.n, none⟩))) (hz : ev e z = some v) (hv : v.cells.toList = K.cells y') (hn : n = K.n)
    (w : ∀ h1, Mem base h1 ([(p, ⟨K.flat (l.set j y'), es, false⟩)] :: L) R → WS tab rb ss (put e d undef) h1 q) : WS tab rb (.op d g (.st n x z) :: ss) e h q := by
  subst hn
  have hle : 0 + j * K.n + K.n ≤ (K.flat l).length := by
    rw [K.flat_length]
    have := Nat.mul_le_mul_right K.n (show j + 1 ≤ l.length by omega)
    rw [Nat.add_mul, Nat.one_mul] at this; omega
  have hall : (K.cells y').all (·.oneCell') = true := by
    have := plain1_one (K.flat_plain [y'])
    simpa [Row.flat] using this
  exact WS.st1 M (K.cells y') (K.flat (l.set j y')) hg hx hz hv (by rw [K.len]) K.pos hle hall (by rw [Nat.zero_add]; exact Row.flat_setN hj) w
end
end Go.Proofs.Ytfcpokolbifilaa.Am
namespace Go.Proofs.Ytfcpokolbifilaa.Wt
open Go Go.Proofs.Ytfcpokolbifilaa.Am Go.Proofs.Ytfcpokolbifilaa.IrAll
open Go.Proofs.Ytfcpokolbifilaa.Am.WS renaming op → D
set_option linter.unusedVariables false
set_option linter.unusedSimpArgs false
variable {h base : H} {L : List Seg} {R : List Nat}
theorem swap2 {A B C : List Nat} {u v : Nat} : ((A ++ u :: (B ++ v :: C)).set A.length v).set (A.length + 1 + B.length) u = A ++ v :: (B ++ u :: C) := by
  rw [List.set_append_right _ _ (by omega), Nat.sub_self, List.set_cons_zero, List.set_append_right _ _ (by omega), show A.length + 1 + B.length - A.length = B.length + 1 by omega, List.set_cons_succ, List.set_append_right _ _ (by omega), Nat.sub_self, List.set_cons_zero]
def QLs (P U Mi V Q : List Nat) (k : Nat) : List Nat := P ++ ((V.take k ++ U.drop k) ++ (Mi ++ ((U.take k ++ V.drop k) ++ Q)))
theorem qls_cut {P U Mi V Q : List Nat} {k u v : Nat} (hu : U[k]? = some u) (hv : V[k]? = some v) : QLs P U Mi V Q k = (P ++ V.take k) ++ u :: ((U.drop (k + 1) ++ (Mi ++ U.take k)) ++ v :: (V.drop (k + 1) ++ Q)) := by
  obtain ⟨h1, rfl⟩ := List.getElem?_eq_some_iff.1 hu
  obtain ⟨h2, rfl⟩ := List.getElem?_eq_some_iff.1 hv
  unfold QLs
  have e1 : U.drop k = U[k] :: U.drop (k + 1) := List.drop_eq_getElem_cons h1
  have e2 : V.drop k = V[k] :: V.drop (k + 1) := List.drop_eq_getElem_cons h2
  rw [e1, e2]
  simp only [List.append_assoc, List.cons_append]
theorem qls_step {P U Mi V Q : List Nat} {k u v : Nat} (hl : U.length = V.length) (hu : U[k]? = some u) (hv : V[k]? = some v) : ((QLs P U Mi V Q k).set (P.length + k) v).set (P.length + U.length + Mi.length + k) u = QLs P U Mi V Q (k + 1) := by
  have h1 := (List.getElem?_eq_some_iff.1 hu).1
  have h2 := (List.getElem?_eq_some_iff.1 hv).1
  rw [qls_cut hu hv]
  have e1 : P.length + k = (P ++ V.take k).length := by simp; omega
  have e2 : P.length + U.length + Mi.length + k = (P ++ V.take k).length + 1 + (U.drop (k + 1) ++ (Mi ++ U.take k)).length := by simp; omega
  rw [e1, e2, swap2]
  unfold QLs
  rw [List.take_add_one, List.take_add_one, hu, hv]
  simp
theorem qls_u {P U Mi V Q : List Nat} {k : Nat} (hl : U.length = V.length) (hk : k < U.length) : (QLs P U Mi V Q k)[P.length + k]? = U[k]? := by
  unfold QLs
  rw [mid_get (by simp; omega), List.getElem?_append_right (by rw [List.length_take]; omega), List.getElem?_drop]
  congr 1; simp; omega
theorem qls_v {P U Mi V Q : List Nat} {k : Nat} (hl : U.length = V.length) (hk : k < U.length) : (QLs P U Mi V Q k)[P.length + U.length + Mi.length + k]? = V[k]? := by
  unfold QLs
  rw [List.getElem?_append_right (by omega), List.getElem?_append_right (by simp; omega), List.getElem?_append_right (by simp; omega), List.getElem?_append_left (by simp; omega), List.getElem?_append_right (by simp; omega), List.getElem?_drop]
  congr 1; simp; omega
theorem qls_len {P U Mi V Q : List Nat} {k : Nat} (hl : U.length = V.length) (hk : k ≤ U.length) : (QLs P U Mi V Q k).length = P.length + U.length + Mi.length + V.length + Q.length := by
  unfold QLs; simp; omega
theorem swapRange_ran {p a b n c n0 : Nat} {d P U Mi V Q : List Nat} {f : Value} (M : Mem base h ([(p, ⟨KNi.flat d, 1, false⟩)] :: L) []) (hd : d = P ++ (U ++ (Mi ++ (V ++ Q)))) (ha : P.length = a) (hb : a + U.length + Mi.length = b) (hn : U.length = n) (hv : V.length = n) (hn0 : d.length = n0) (hs : d.length ≤ 1000000) :
    Cll tab0 30 [.slice (some ⟨p, 0, none⟩) n0 c, .int .i64 (a : Int), .int .i64 (b : Int), .int .i64 (n : Int), f] h (fun v h2 => v = .tuple #[] ∧ Mem base h2 ([(p, ⟨KNi.flat (P ++ (V ++ (Mi ++ (U ++ Q)))), 1, false⟩)] :: L) []) := by
  subst hn0
  have hq0 : d = QLs P U Mi V Q 0 := by rw [hd]; unfold QLs; simp
  have hlen : d.length = P.length + U.length + Mi.length + V.length + Q.length := by rw [hd]; simp; omega
  rw [hq0] at M
  refine Cll.code rfl rfl ?_
  refine WC.env [(0, _), (1, _), (2, _), (3, _), (4, _)] rfl ?_
  refine WC.seq (WC.run (D rfl rfl (WS.nil [(0, _), (1, _), (2, _), (3, _), (10, _)] rfl ?_)))
  refine WC.block ?_
  obtain ⟨L1, eL3, M2⟩ := Mem.name1 (M.bare.focus 0 rfl)
  refine WC.loop (σ := Nat) (fun (k) => [(0, (.slice (some ⟨p, 0, none⟩) d.length c)), (1, (.int .i64 ((a : Nat) : Int))), (2, (.int .i64 ((b : Nat) : Int))), (3, (.int .i64 ((n : Nat) : Int))), (10, (.int .i64 ((k : Nat) : Int)))]) (fun (k) hh => Mem base hh ([(p, ⟨KNi.flat (QLs P U Mi V Q k), 1, false⟩)] :: L1) [] ∧ k ≤ n) (fun (k) => n - k) (0) rfl ⟨(by exact M2), ?_⟩ ?_
  · omega
  ·rintro k h4 ⟨M5, hk⟩
   replace eL3 := eL3.symm; subst eL3
   refine WC.env [(0, _), (1, _), (2, _), (3, _), (10, _)] rfl ?_
   have hql := qls_len (P := P) (Mi := Mi) (Q := Q) (show U.length = V.length by omega) (show k ≤ U.length by omega)
   refine WC.seq (WC.seq (WC.run (D rfl rfl (D rfl rfl ?_))))
   refine WS.lssN (a := k) (b := n) rfl rfl rfl (fun e13 => ?_) (fun e13 => ?_)
   ·
    refine WS.nil [(0, _), (1, _), (2, _), (3, _), (10, _), (13, _)] rfl ?_
    refine WC.condT rfl (WC.skip (WC.seq (WC.block (WC.draw M5 [] rfl ?_))))
    intro rb6 h7 M8
    refine D rfl rfl (D rfl rfl (D rfl rfl (WS.opV (.int .i64 (((a + k) : Nat) : Int)) rfl rfl (add_i64 (a := a) (b := k) (by omega)) (D rfl rfl (D rfl rfl (D rfl rfl (WS.opV (.int .i64 (((b + k) : Nat) : Int)) rfl rfl (add_i64 (a := b) (b := k) (by omega)) (D rfl rfl (D rfl rfl ?_)))))))))
    refine D rfl rfl (WS.opV (.int .i64 (((b + k) : Nat) : Int)) rfl rfl (add_i64 (a := b) (b := k) (by omega)) ?_)
    obtain ⟨y28, hy28⟩ : ∃ y, ((QLs P U Mi V Q k))[(b + k)]? = some y := ⟨_, List.getElem?_eq_getElem (show (b + k) < ((QLs P U Mi V Q k)).length by omega)⟩
    have hvk : V[k]? = some y28 := by rw [← qls_v (P := P) (U := U) (Mi := Mi) (Q := Q) (by omega) (by omega), show P.length + U.length + Mi.length + k = b + k by omega]; exact hy28
    refine D rfl (op_iaV2 (b + k) rfl rfl (by omega)) (D rfl (op_ldH rfl (Row.ld (K := KNi) (k := 0) (M8.at 0 rfl) hy28 rfl)) (D rfl rfl (D rfl rfl (D rfl rfl (WS.opV (.int .i64 (((a + k) : Nat) : Int)) rfl rfl (add_i64 (a := a) (b := k) (by omega)) ?_)))))
    obtain ⟨y34, hy34⟩ : ∃ y, ((QLs P U Mi V Q k))[(a + k)]? = some y := ⟨_, List.getElem?_eq_getElem (show (a + k) < ((QLs P U Mi V Q k)).length by omega)⟩
    have huk : U[k]? = some y34 := by rw [← qls_u (P := P) (V := V) (Mi := Mi) (Q := Q) (by omega) (by omega), show P.length + k = a + k by omega]; exact hy34
    have hset : ((QLs P U Mi V Q k).set (a + k) y28).set (b + k) y34 = QLs P U Mi V Q (k + 1) := by rw [← qls_step (by omega) huk hvk, show P.length + U.length + Mi.length + k = b + k by omega, show P.length + k = a + k by omega]
    refine D rfl (op_iaV2 (a + k) rfl rfl (by omega)) (D rfl (op_ldH rfl (Row.ld (K := KNi) (k := 0) (M8.at 0 rfl) hy34 rfl)) ?_)
    obtain ⟨y36, hy36⟩ : ∃ y, ((QLs P U Mi V Q k))[(a + k)]? = some y := ⟨_, List.getElem?_eq_getElem (show (a + k) < ((QLs P U Mi V Q k)).length by omega)⟩
    refine D rfl (op_iaV2 (a + k) rfl rfl (by omega)) ?_
    refine WS.stN (K := KNi) (y' := (y28)) (M8.focus 0 rfl) (List.getElem?_eq_some_iff.1 hy36).1 rfl rfl rfl rfl rfl ?_
    intro h9 M10
    replace M10 : Mem _ _ ([(p, _)] :: L) _ := M10
    have hye11 : ((QLs P U Mi V Q k).set (a + k) (y28))[(a + k)]? = some (y28) := List.getElem?_set_self (List.getElem?_eq_some_iff.1 hy36).1
    obtain ⟨y37, hy37⟩ : ∃ y, (((QLs P U Mi V Q k).set (a + k) (y28)))[(b + k)]? = some y := ⟨_, List.getElem?_eq_getElem (show (b + k) < (((QLs P U Mi V Q k).set (a + k) (y28))).length by first | omega | (rw [List.length_set]; omega))⟩
    refine D rfl (op_iaV2 (b + k) rfl rfl (by first | omega | (rw [List.length_set]; omega))) ?_
    refine WS.stN (K := KNi) (y' := (y34)) (M10.focus 0 rfl) (List.getElem?_eq_some_iff.1 hy37).1 rfl rfl rfl rfl rfl ?_
    intro h12 M13
    replace M13 : Mem _ _ ([(p, _)] :: L) _ := M13
    have hye14 : (((QLs P U Mi V Q k).set (a + k) (y28)).set (b + k) (y34))[(b + k)]? = some (y34) := List.getElem?_set_self (List.getElem?_eq_some_iff.1 hy37).1
    refine WS.nil [(0, _), (1, _), (2, _), (3, _), (10, _)] rfl ?_
    refine WC.run (D rfl rfl (WS.opV (.int .i64 (((k + 1) : Nat) : Int)) rfl rfl (add_i64 (a := k) (b := 1) (by omega)) (D rfl rfl (WS.nil [(0, _), (1, _), (2, _), (3, _), (10, _)] rfl ?_))))
    refine ⟨k + 1, rfl, ⟨(by have q := (M13.bare); rw [hset] at q; exact q), ?_⟩, ?_⟩
    · omega
    · simp only []; omega
   ·
    refine WS.nil [(0, _), (1, _), (2, _), (3, _), (10, _), (13, _)] rfl ?_
    refine WC.condF rfl (WC.exit ?_)
    refine ⟨[], res_nil, ?_⟩
    have hfin : QLs P U Mi V Q k = P ++ (V ++ (Mi ++ (U ++ Q))) := by
      unfold QLs
      rw [List.take_of_length_le (by omega), List.take_of_length_le (by omega), List.drop_of_length_le (by omega), List.drop_of_length_le (by omega)]
      simp
    have q := M5
    rw [hfin] at q
    exact ⟨rfl, q⟩
theorem rot_up {P X Y Q U X2 T : List Nat} (hX : X = U ++ X2) (hT : P ++ (Y ++ (X ++ Q)) = T) : (P ++ Y) ++ (U ++ (X2 ++ Q)) = T := by rw [← hT, hX]; simp
theorem rot_down {P X Y Q Y2 Z T : List Nat} (hY : Y = Y2 ++ Z) (hT : P ++ (Y ++ (X ++ Q)) = T) : P ++ (Y2 ++ (Z ++ (X ++ Q))) = T := by rw [← hT, hY]; simp
theorem cut2 (X : List Nat) {k : Nat} (h : k ≤ X.length) : ∃ U X2, X = U ++ X2 ∧ U.length = k ∧ X2.length = X.length - k := ⟨X.take k, X.drop k, (List.take_append_drop k X).symm, by simp; omega, by simp⟩
set_option maxRecDepth 8000 in
theorem rotate_ran {p a m b c n0 : Nat} {d P X Y Q : List Nat} {f : Value} (M : Mem base h ([(p, ⟨KNi.flat d, 1, false⟩)] :: L) []) (hd : d = P ++ (X ++ (Y ++ Q))) (ha : P.length = a) (hm : a + X.length = m) (hb : m + Y.length = b) (hx : 0 < X.length) (hy : 0 < Y.length) (hn0 : d.length = n0) (hs : d.length ≤ 1000000) :
    Cll tab0 29 [.slice (some ⟨p, 0, none⟩) n0 c, .int .i64 (a : Int), .int .i64 (m : Int), .int .i64 (b : Int), f] h (fun v h2 => v = .tuple #[] ∧ Mem base h2 ([(p, ⟨KNi.flat (P ++ (Y ++ (X ++ Q))), 1, false⟩)] :: L) []) := by
  have hlen : d.length = P.length + X.length + Y.length + Q.length := by rw [hd]; simp; omega
  refine Cll.code rfl rfl ?_
  refine WC.env [(0, _), (1, _), (2, _), (3, _), (4, _)] rfl ?_
  refine WC.seq (WC.run (D rfl rfl (D rfl rfl (WS.opV (.int .i64 (((m - a) : Nat) : Int)) rfl rfl (sub_i64 (a := m) (b := a) (by omega)) (D rfl rfl (WS.nil [(0, _), (2, _), (3, _), (4, _), (10, _)] rfl ?_))))))
  refine WC.seq (WC.run (D rfl rfl (D rfl rfl (WS.opV (.int .i64 (((b - m) : Nat) : Int)) rfl rfl (sub_i64 (a := b) (b := m) (by omega)) (D rfl rfl (WS.nil [(0, _), (2, _), (4, _), (10, _), (11, _)] rfl ?_))))))
  refine WC.seq (WC.block ?_)
  obtain ⟨L1, eL3, M2⟩ := Mem.name1 (M.bare.focus 0 rfl)
  refine WC.loop (σ := List Nat × List Nat × List Nat × List Nat × List Nat × Nat × Nat) (fun ((e, P1, X1, Y1, Q1, i, j)) => [(0, (.slice (some ⟨p, 0, none⟩) n0 c)), (2, (.int .i64 ((m : Nat) : Int))), (4, f), (10, (.int .i64 ((i : Nat) : Int))), (11, (.int .i64 ((j : Nat) : Int)))]) (fun ((e, P1, X1, Y1, Q1, i, j)) hh => Mem base hh ([(p, ⟨KNi.flat e, 1, false⟩)] :: L1) [] ∧ e = P1 ++ (X1 ++ (Y1 ++ Q1)) ∧ P1 ++ (Y1 ++ (X1 ++ Q1)) = P ++ (Y ++ (X ++ Q)) ∧ P1.length + X1.length = m ∧ X1.length = i ∧ Y1.length = j ∧ 0 < i ∧ 0 < j ∧ e.length = n0) (fun ((e, P1, X1, Y1, Q1, i, j)) => i + j) (d, P, X, Y, Q, m - a, b - m) rfl ⟨(by exact M2), ?_⟩ ?_
  · exact ⟨hd, rfl, by omega, by omega, by omega, by omega, by omega, hn0⟩
  ·rintro ⟨e, P1, X1, Y1, Q1, i, j⟩ h4 ⟨M5, ⟨he, hT, hm1, hi, hj, hi0, hj0, hel⟩⟩
   replace eL3 := eL3.symm; subst eL3
   refine WC.env [(0, _), (2, _), (4, _), (10, _), (11, _)] rfl ?_
   have hel2 : e.length = P1.length + X1.length + Y1.length + Q1.length := by rw [he]; simp; omega
   refine WC.seq (WC.seq (WC.run (D rfl rfl (D rfl rfl ?_))))
   refine WS.neqN (a := i) (b := j) rfl rfl rfl (fun e20 => ?_) (fun e20 => ?_)
   ·
    refine WS.nil [(0, _), (2, _), (4, _), (10, _), (11, _), (20, _)] rfl ?_
    refine WC.condT rfl (WC.skip (WC.block (WC.seq (WC.run (D rfl rfl (D rfl rfl ?_))))))
    refine WS.gtrN (a := i) (b := j) rfl rfl rfl (fun e23 => ?_) (fun e23 => ?_)
    ·
     obtain ⟨U_, X2, hXU, hU1, hU2⟩ := cut2 X1 (show j ≤ X1.length by omega)
     refine WS.nil [(0, _), (2, _), (4, _), (10, _), (11, _), (23, _)] rfl ?_
     refine WC.condT rfl (WC.seq (WC.run (D rfl rfl (D rfl rfl (D rfl rfl (WS.opV (.int .i64 (((m - i) : Nat) : Int)) rfl rfl (sub_i64 (a := m) (b := i) (by omega)) (D rfl rfl (D rfl rfl (D rfl rfl ?_)))))))))
     refine WS.call rfl rfl rfl (swapRange_ran (d := e) (P := P1) (U := U_) (Mi := X2) (V := Y1) (Q := Q1) (M5.focus 0 rfl) (by rw [he, hXU]; simp) (by omega) (by omega) (by omega) (by omega) (by omega) (by omega)) ?_
     rintro _ h6 ⟨rfl, M7⟩
     replace M7 : Mem _ _ ([(p, _)] :: L) _ := M7
     refine WS.nil [(0, _), (2, _), (4, _), (10, _), (11, _)] rfl ?_
     refine WC.run (D rfl rfl (D rfl rfl (WS.opV (.int .i64 (((i - j) : Nat) : Int)) rfl rfl (sub_i64 (a := i) (b := j) (by omega)) (D rfl rfl (WS.nil [(0, _), (2, _), (4, _), (10, _), (11, _)] rfl ?_)))))
     refine ⟨(_, P1 ++ Y1, X2, U_, Q1, i - j, j), rfl, ⟨M7, ?_⟩, ?_⟩
     · exact ⟨by simp, rot_up hXU hT, by rw [List.length_append]; omega, by omega, by omega, by omega, by omega, by simp only [List.length_append]; omega⟩
     · simp only []; omega
    ·
     obtain ⟨Y2, Z_, hYU, hU1, hU2⟩ := cut2 Y1 (show j - i ≤ Y1.length by omega)
     refine WS.nil [(0, _), (2, _), (4, _), (10, _), (11, _), (23, _)] rfl ?_
     refine WC.condF rfl (WC.seq (WC.run (D rfl rfl (D rfl rfl (D rfl rfl (WS.opV (.int .i64 (((m - i) : Nat) : Int)) rfl rfl (sub_i64 (a := m) (b := i) (by omega)) (D rfl rfl (D rfl rfl (WS.opV (.int .i64 (((m + j) : Nat) : Int)) rfl rfl (add_i64 (a := m) (b := j) (by omega)) (D rfl rfl (WS.opV (.int .i64 ((((m + j) - i) : Nat) : Int)) rfl rfl (sub_i64 (a := (m + j)) (b := i) (by omega)) (D rfl rfl ?_))))))))))))
     refine D rfl rfl ?_
     refine WS.call rfl rfl rfl (swapRange_ran (d := e) (P := P1) (U := X1) (Mi := Y2) (V := Z_) (Q := Q1) (M5.focus 0 rfl) (by rw [he, hYU]; simp) (by omega) (by omega) (by omega) (by omega) (by omega) (by omega)) ?_
     rintro _ h8 ⟨rfl, M9⟩
     replace M9 : Mem _ _ ([(p, _)] :: L) _ := M9
     refine WS.nil [(0, _), (2, _), (4, _), (10, _), (11, _)] rfl ?_
     refine WC.run (D rfl rfl (D rfl rfl (WS.opV (.int .i64 (((j - i) : Nat) : Int)) rfl rfl (sub_i64 (a := j) (b := i) (by omega)) (D rfl rfl (WS.nil [(0, _), (2, _), (4, _), (10, _), (11, _)] rfl ?_)))))
     refine ⟨(_, P1, Z_, Y2, X1 ++ Q1, i, j - i), rfl, ⟨M9, ?_⟩, ?_⟩
     · exact ⟨rfl, rot_down hYU hT, by omega, by omega, by omega, by omega, by omega, by simp only [List.length_append]; omega⟩
     · simp only []; omega
   ·
    refine WS.nil [(0, _), (2, _), (4, _), (10, _), (11, _), (20, _)] rfl ?_
    refine WC.condF rfl (WC.exit ?_)
    refine WC.run (D rfl rfl (D rfl rfl (D rfl rfl (WS.opV (.int .i64 (((m - i) : Nat) : Int)) rfl rfl (sub_i64 (a := m) (b := i) (by omega)) (D rfl rfl (D rfl rfl (D rfl rfl ?_)))))))
    have hlz : ([] : List Nat).length = 0 := rfl
    refine WS.call rfl rfl rfl (swapRange_ran (d := e) (P := P1) (U := X1) (Mi := []) (V := Y1) (Q := Q1) (M5.focus 0 rfl) (by rw [he]; rfl) (by omega) (by omega) (by omega) (by omega) (by omega) (by omega)) ?_
    rintro _ h10 ⟨rfl, M11⟩
    replace M11 : Mem _ _ ([(p, _)] :: L) _ := M11
    refine WS.nil [] rfl ?_
    refine ⟨[], res_nil, ?_⟩
    have q := M11
    rw [show P1 ++ (Y1 ++ ([] ++ (X1 ++ Q1))) = P ++ (Y ++ (X ++ Q)) from hT] at q
    exact ⟨rfl, q⟩
end Go.Proofs.Ytfcpokolbifilaa.Wt
namespace Go.Proofs.Ytfcpokolbifilaa.Wt
open Go Go.Proofs.Ytfcpokolbifilaa.Am Go.Proofs.Ytfcpokolbifilaa.IrAll
open Go.Proofs.Ytfcpokolbifilaa.Am.WS renaming op → C
set_option linter.unusedVariables false
set_option linter.unusedSimpArgs false
variable {h base : H} {L : List Seg} {R : List Nat}
section
variable {cm : Nat → Nat → Prop}
theorem srt_iff {P S Q : List Nat} : Srt cm P.length (P.length + S.length) (P ++ (S ++ Q)) ↔ S.Pairwise (fun x y => ¬ cm y x) := by
  constructor
  · intro q
    rw [List.pairwise_iff_getElem]
    intro i j hi hj hij
    exact q (P.length + i) (P.length + j) _ _ (by omega) (by omega) (by omega) (by rw [mid_get hi]; exact List.getElem?_eq_getElem hi) (by rw [mid_get hj]; exact List.getElem?_eq_getElem hj)
  · intro q i j x y h1 h2 h3 hx hy
    rw [List.pairwise_iff_getElem] at q
    have e1 := mid_get (P := P) (X := S) (Z := Q) (i := i - P.length) (by omega)
    have e2 := mid_get (P := P) (X := S) (Z := Q) (i := j - P.length) (by omega)
    rw [show P.length + (i - P.length) = i by omega, hx] at e1
    rw [show P.length + (j - P.length) = j by omega, hy] at e2
    obtain ⟨h5, rfl⟩ := List.getElem?_eq_some_iff.1 e1.symm
    obtain ⟨h6, rfl⟩ := List.getElem?_eq_some_iff.1 e2.symm
    exact q _ _ h5 h6 (by omega)
theorem swap_dn {A B : List Nat} {x y : Nat} : ((A ++ x :: y :: B).set (A.length + 1) x).set A.length y = A ++ y :: x :: B := by
  rw [List.set_append_right _ _ (by omega), List.set_append_right _ _ (by omega)]
  simp
theorem last_cut {P : List Nat} {x j : Nat} (hj : P.length = j) (h0 : 0 < j) (hx : P[j - 1]? = some x) : ∃ P2, P = P2 ++ [x] ∧ P2.length = j - 1 := by
  refine ⟨P.take (j - 1), ?_, by simp; omega⟩
  have : P.take (j - 1 + 1) = P.take (j - 1) ++ [x] := by rw [List.take_add_one, hx]; rfl
  rw [← this, show j - 1 + 1 = j by omega, List.take_of_length_le (by omega)]
theorem one_cut (d : List Nat) {i : Nat} (h : i < d.length) : ∃ P y Q, d = P ++ y :: Q ∧ P.length = i := ⟨d.take i, d[i], d.drop (i + 1), by rw [← List.drop_eq_getElem_cons h, List.take_append_drop], by simp; omega⟩
theorem before_last (w : SW cm) {P : List Nat} {y z : Nat} (hs : (P ++ [z]).Pairwise (fun x y => ¬ cm y x)) (hz : ¬ cm y z) : ∀ x ∈ P ++ [z], ¬ cm y x := by
  intro x hx
  rcases List.mem_append.1 hx with q | q
  · exact w.neg y z x hz ((List.pairwise_append.1 hs).2.2 x q z (List.mem_singleton.2 rfl))
  · rw [List.mem_singleton] at q; subst q; exact hz
theorem ins_srt (w : SW cm) {a i : Nat} {P1 X2 Q : List Nat} {y : Nat} (hs : Srt cm a i (P1 ++ (X2 ++ (y :: Q)))) (ha : a ≤ P1.length) (hi : P1.length + X2.length = i) (hx : ∀ x ∈ X2, cm y x) (hl : P1.length = a ∨ ∃ x, P1[P1.length - 1]? = some x ∧ ¬ cm y x) : Srt cm a (i + 1) (P1 ++ (y :: (X2 ++ Q))) := by
  obtain ⟨Pa, P2, e1, e2, e3⟩ := cut2 P1 ha
  subst e1
  have h1 : (P2 ++ X2).Pairwise (fun x y => ¬ cm y x) := by
    have := srt_iff (cm := cm) (P := Pa) (S := P2 ++ X2) (Q := y :: Q)
    rw [e2, List.length_append, show a + (P2.length + X2.length) = i by rw [List.length_append] at hi; omega] at this
    apply this.1
    simpa [List.append_assoc] using hs
  have h2 : (P2 ++ (y :: X2)).Pairwise (fun x y => ¬ cm y x) := by
    rw [List.pairwise_append] at h1 ⊢
    obtain ⟨g1, g2, g3⟩ := h1
    refine ⟨g1, List.pairwise_cons.2 ⟨fun x q => w.asym (hx x q), g2⟩, fun x q z qz => ?_⟩
    rcases List.mem_cons.1 qz with r | r
    · subst r
      rcases hl with hl | ⟨v, hv, hn⟩
      · have : P2 = [] := List.eq_nil_of_length_eq_zero (by rw [List.length_append] at hl; omega)
        rw [this] at q; simp at q
      · by_cases hp : P2 = []
        · rw [hp] at q; simp at q
        · have hp2 : 0 < P2.length := List.length_pos_iff.2 hp
          rw [List.getElem?_append_right (by rw [List.length_append]; omega), show (Pa ++ P2).length - 1 - Pa.length = P2.length - 1 by rw [List.length_append]; omega] at hv
          obtain ⟨P3, f1, f2⟩ := last_cut rfl hp2 hv
          rw [f1] at q g1
          exact before_last w g1 hn x q
    · exact g3 x q z r
  have := srt_iff (cm := cm) (P := Pa) (S := P2 ++ (y :: X2)) (Q := Q)
  rw [e2, List.length_append, List.length_cons, show a + (P2.length + (X2.length + 1)) = i + 1 by rw [List.length_append] at hi; omega] at this
  have := this.2 h2
  simpa [List.append_assoc] using this
end
set_option maxRecDepth 8000 in
theorem insertion_ran {p pc a b c n0 : Nat} {d : List Nat} {V : Value} {l : List JOp} (M : Mem base h ([(p, ⟨KNi.flat d, 1, false⟩)] :: L) []) (A : KJOp.Sl base V l) (hp : base.get pc = some ⟨[V], 0, false⟩) (hdl : ∀ x ∈ d, x < l.length) (hab : a ≤ b) (hb : b ≤ d.length) (hn0 : d.length = n0) (hs : d.length ≤ 1000000) :
    Cll tab0 25 [.slice (some ⟨p, 0, none⟩) n0 c, .int .i64 (a : Int), .int .i64 (b : Int), .func (.func 18) #[] #[.pointer (some ⟨pc, 0, none⟩)]] h (fun v h2 => v = .tuple #[] ∧ ∃ e, Sg (cmL l) a b d e ∧ Srt (cmL l) a b e ∧ Mem base h2 ([(p, ⟨KNi.flat e, 1, false⟩)] :: L) []) := by
  have w := cmL_sw l
  refine Cll.code rfl rfl ?_
  refine WC.env [(0, _), (1, _), (2, _), (3, _)] rfl ?_
  refine WC.seq (WC.run (C rfl rfl (WS.opV (.int .i64 (((a + 1) : Nat) : Int)) rfl rfl (add_i64 (a := a) (b := 1) (by omega)) (C rfl rfl (WS.nil [(0, _), (1, _), (2, _), (3, _), (8, _)] rfl ?_)))))
  refine WC.block ?_
  obtain ⟨L1, eL3, M2⟩ := Mem.name1 (M.bare.focus 0 rfl)
  refine WC.loop (σ := List Nat × Nat) (fun ((e, i)) => [(0, (.slice (some ⟨p, 0, none⟩) n0 c)), (1, (.int .i64 ((a : Nat) : Int))), (2, (.int .i64 ((b : Nat) : Int))), (3, (.func (.func 18) #[] #[(.pointer (some ⟨pc, 0, none⟩))])), (8, (.int .i64 ((i : Nat) : Int)))]) (fun ((e, i)) hh => Mem base hh ([(p, ⟨KNi.flat e, 1, false⟩)] :: L1) [] ∧ Sg (cmL l) a b d e ∧ Srt (cmL l) a i e ∧ a < i ∧ i ≤ b + 1 ∧ (i ≤ b ∨ i = a + 1)) (fun ((e, i)) => b + 1 - i) (d, a + 1) rfl ⟨(by exact M2), ?_⟩ ?_
  · exact ⟨Sg.refl, Srt.small (by omega), by omega, by omega, by omega⟩
  ·rintro ⟨e, i⟩ h4 ⟨M5, ⟨hg, hsr, hai, hib, hi3⟩⟩
   replace eL3 := eL3.symm; subst eL3
   refine WC.env [(0, _), (1, _), (2, _), (3, _), (8, _)] rfl ?_
   have hel : e.length = n0 := by rw [hg.1]; exact hn0
   refine WC.seq (WC.seq (WC.run (C rfl rfl (C rfl rfl ?_))))
   refine WS.lssN (a := i) (b := b) rfl rfl rfl (fun e14 => ?_) (fun e14 => ?_)
   ·
    refine WS.nil [(0, _), (1, _), (2, _), (3, _), (8, _), (14, _)] rfl ?_
    refine WC.condT rfl (WC.skip (WC.seq (WC.block (WC.seq (WC.run (C rfl rfl (C rfl rfl (WS.nil [(0, _), (1, _), (2, _), (3, _), (8, _), (9, _)] rfl ?_))))))))
    refine WC.block ?_
    obtain ⟨P0, y_, Q_, he0, hP0⟩ := one_cut e (show i < e.length by omega)
    obtain ⟨L6, eL8, M7⟩ := Mem.name1 (M5.bare.focus 0 rfl)
    refine WC.loop (σ := List Nat × List Nat × List Nat × Nat) (fun ((e1, P1, X2, j)) => [(0, (.slice (some ⟨p, 0, none⟩) n0 c)), (1, (.int .i64 ((a : Nat) : Int))), (2, (.int .i64 ((b : Nat) : Int))), (3, (.func (.func 18) #[] #[(.pointer (some ⟨pc, 0, none⟩))])), (8, (.int .i64 ((i : Nat) : Int))), (9, (.int .i64 ((j : Nat) : Int)))]) (fun ((e1, P1, X2, j)) hh => Mem base hh ([(p, ⟨KNi.flat e1, 1, false⟩)] :: L6) [] ∧ e1 = P1 ++ (y_ :: (X2 ++ Q_)) ∧ e = P1 ++ (X2 ++ (y_ :: Q_)) ∧ P1.length = j ∧ a ≤ j ∧ ∀ x ∈ X2, cmL l y_ x) (fun ((e1, P1, X2, j)) => j) (e, P0, [], i) rfl ⟨(by exact M7), ?_⟩ ?_
    · exact ⟨he0, he0, hP0, by omega, by simp⟩
    ·rintro ⟨e1, P1, X2, j⟩ h9 ⟨M10, ⟨he1, he2, hPj, haj, hX⟩⟩
     replace eL8 := eL8.symm; subst eL8
     refine WC.env [(0, _), (1, _), (2, _), (3, _), (8, _), (9, _)] rfl ?_
     have hl2 : P1.length + X2.length = i := by have := congrArg List.length (he0.symm.trans he2); simp only [List.length_append, List.length_cons] at this; omega
     have hg1 : Sg (cmL l) a b d e1 := by
       have r := sg_rot (cm := cmL l) (P := P1) (X := X2) (Y := [y_]) (Q := Q_) (fun x hx y hy => by rw [List.mem_singleton] at hy; subst hy; exact hX x hx)
       have r2 : Sg (cmL l) P1.length (P1.length + X2.length + 1) e e1 := by rw [he2, he1]; exact r
       exact hg.trans (r2.mono (by omega) (by omega))
     have hel1 : e1.length = n0 := by rw [hg1.1]; exact hn0
     refine WC.seq (WC.seq (WC.draw M10 [] rfl ?_))
     intro rb11 h12 M13
     refine C rfl rfl (C rfl rfl ?_)
     refine WS.gtrN (a := j) (b := a) rfl rfl rfl (fun e20 => ?_) (fun e20 => ?_)
     ·
      refine C rfl rfl (C rfl rfl (C rfl rfl (C rfl rfl ?_)))
      obtain ⟨y25, hy25⟩ : ∃ y, (e1)[j]? = some y := ⟨_, List.getElem?_eq_getElem (show j < (e1).length by omega)⟩
      refine C rfl (op_iaV2 j rfl rfl (by omega)) (C rfl (op_ldH rfl (Row.ld (K := KNi) (k := 0) (M13.at 0 rfl) hy25 rfl)) (C rfl rfl (C rfl rfl (WS.opV (.int .i64 (((j - 1) : Nat) : Int)) rfl rfl (sub_i64 (a := j) (b := 1) (by omega)) ?_))))
      obtain ⟨y30, hy30⟩ : ∃ y, (e1)[(j - 1)]? = some y := ⟨_, List.getElem?_eq_getElem (show (j - 1) < (e1).length by omega)⟩
      refine C rfl (op_iaV2 (j - 1) rfl rfl (by omega)) (C rfl (op_ldH rfl (Row.ld (K := KNi) (k := 0) (M13.at 0 rfl) hy30 rfl)) ?_)
      refine WS.call rfl rfl rfl (cmF_ran M13.here (i1 := y25) (j1 := y30) (A.mono M13.sub) (M13.sub _ _ hp) ((fun x hx => hdl x (hg1.2.2.1.mem_iff.1 hx)) _ (List.mem_of_getElem? hy25)) ((fun x hx => hdl x (hg1.2.2.1.mem_iff.1 hx)) _ (List.mem_of_getElem? hy30))) ?_
      rintro _ h14 ⟨z32, rfl, hz32, N15⟩
      have M16 := M13.trans N15
      refine WS.lss (a := z32) (b := (0 : Int)) rfl rfl rfl (fun e33 => ?_) (fun e33 => ?_)
      ·
       refine C rfl rfl (WS.nil [(0, _), (1, _), (2, _), (3, _), (8, _), (9, _), (34, _)] rfl ?_)
       refine WC.condT rfl (WC.skip (WC.seq (WC.block (WC.draw M16.bare [] rfl ?_))))
       intro rb17 h18 M19
       refine C rfl rfl (C rfl rfl (C rfl rfl (C rfl rfl (WS.opV (.int .i64 (((j - 1) : Nat) : Int)) rfl rfl (sub_i64 (a := j) (b := 1) (by omega)) (C rfl rfl (C rfl rfl (WS.opV (.int .i64 (((j - 1) : Nat) : Int)) rfl rfl (sub_i64 (a := j) (b := 1) (by omega)) ?_)))))))
       obtain ⟨y45, hy45⟩ : ∃ y, (e1)[(j - 1)]? = some y := ⟨_, List.getElem?_eq_getElem (show (j - 1) < (e1).length by omega)⟩
       refine C rfl (op_iaV2 (j - 1) rfl rfl (by omega)) (C rfl (op_ldH rfl (Row.ld (K := KNi) (k := 0) (M19.at 0 rfl) hy45 rfl)) (C rfl rfl (C rfl rfl ?_)))
       obtain ⟨y49, hy49⟩ : ∃ y, (e1)[j]? = some y := ⟨_, List.getElem?_eq_getElem (show j < (e1).length by omega)⟩
       have hy1 : y_ = y49 := by rw [he1, ← hPj, List.getElem?_append_right (Nat.le_refl _), Nat.sub_self] at hy49; simpa using hy49
       have hy2 : P1[j - 1]? = some y45 := by rw [he1, List.getElem?_append_left (by omega)] at hy45; exact hy45
       obtain ⟨P2, hP2, hP2l⟩ := last_cut hPj (by omega) hy2
       have hsw : (e1.set j y45).set (j - 1) y49 = P2 ++ (y_ :: ((y45 :: X2) ++ Q_)) := by
         rw [← hy1, he1, hP2, show j - 1 = P2.length by omega, show j = P2.length + 1 by omega]
         simp only [List.append_assoc, List.cons_append, List.nil_append]
         exact swap_dn
       have hcx : cmL l y_ y45 := by
         have q1 : y25 = y_ := by rw [he1, ← hPj, List.getElem?_append_right (Nat.le_refl _), Nat.sub_self] at hy25; simpa using hy25.symm
         have q2 : y30 = y45 := Option.some.inj (hy30.symm.trans hy45)
         have := hz32.1 (by assumption)
         rw [q1, q2] at this; exact this
       refine C rfl (op_iaV2 j rfl rfl (by omega)) (C rfl (op_ldH rfl (Row.ld (K := KNi) (k := 0) (M19.at 0 rfl) hy49 rfl)) ?_)
       obtain ⟨y51, hy51⟩ : ∃ y, (e1)[j]? = some y := ⟨_, List.getElem?_eq_getElem (show j < (e1).length by first | omega | (simp only [List.length_set]; omega))⟩
       refine C rfl (op_iaV2 j rfl rfl (by first | omega | (simp only [List.length_set]; omega))) ?_
       refine WS.stN (K := KNi) (y' := (y45)) (M19.focus 0 rfl) (List.getElem?_eq_some_iff.1 hy51).1 rfl rfl rfl rfl rfl ?_
       intro h20 M21
       replace M21 : Mem _ _ ([(p, _)] :: L) _ := M21
       have hye22 : (e1.set j (y45))[j]? = some (y45) := List.getElem?_set_self (List.getElem?_eq_some_iff.1 hy51).1
       obtain ⟨y52, hy52⟩ : ∃ y, ((e1.set j (y45)))[(j - 1)]? = some y := ⟨_, List.getElem?_eq_getElem (show (j - 1) < ((e1.set j (y45))).length by first | omega | (simp only [List.length_set]; omega))⟩
       refine C rfl (op_iaV2 (j - 1) rfl rfl (by first | omega | (simp only [List.length_set]; omega))) ?_
       refine WS.stN (K := KNi) (y' := (y49)) (M21.focus 0 rfl) (List.getElem?_eq_some_iff.1 hy52).1 rfl rfl rfl rfl rfl ?_
       intro h23 M24
       replace M24 : Mem _ _ ([(p, _)] :: L) _ := M24
       have hye25 : ((e1.set j (y45)).set (j - 1) (y49))[(j - 1)]? = some (y49) := List.getElem?_set_self (List.getElem?_eq_some_iff.1 hy52).1
       refine WS.nil [(0, _), (1, _), (2, _), (3, _), (8, _), (9, _)] rfl ?_
       refine WC.run (C rfl rfl (WS.opV (.int .i64 (((j - 1) : Nat) : Int)) rfl rfl (sub_i64 (a := j) (b := 1) (by omega)) (C rfl rfl (WS.nil [(0, _), (1, _), (2, _), (3, _), (8, _), (9, _)] rfl ?_))))
       refine ⟨(_, P2, y45 :: X2, j - 1), rfl, ⟨(M24.bare), ?_⟩, ?_⟩
       · exact ⟨hsw, by rw [he2, hP2]; simp, by omega, by omega, fun x hx => by rcases List.mem_cons.1 hx with q | q; (subst q; exact hcx); exact hX x q⟩
       · simp only []; omega
      ·
       refine C rfl rfl (WS.nil [(0, _), (1, _), (2, _), (3, _), (8, _), (9, _), (34, _)] rfl ?_)
       refine WC.condF rfl (WC.exit ?_)
       refine WC.run ?_
       have hs1 : Srt (cmL l) a (i + 1) e1 := by
         rw [he2] at hsr
         rw [he1]
         refine ins_srt w hsr (by omega) hl2 hX ?_
         first
         | exact .inl (by omega)
         | (refine .inr ⟨y30, ?_, ?_⟩
            · rw [hPj]; rw [he1, List.getElem?_append_left (by omega)] at hy30; exact hy30
            · have q1 : y25 = y_ := by (rw [he1, ← hPj, List.getElem?_append_right (Nat.le_refl _), Nat.sub_self] at hy25; simpa using hy25.symm)
              rw [← q1]; exact fun q => absurd (hz32.2 q) (by omega))
       refine C rfl rfl (WS.opV (.int .i64 (((i + 1) : Nat) : Int)) rfl rfl (add_i64 (a := i) (b := 1) (by omega)) (C rfl rfl (WS.nil [(0, _), (1, _), (2, _), (3, _), (8, _)] rfl ?_)))
       refine ⟨(e1, i + 1), rfl, ⟨(M16.bare), ?_⟩, ?_⟩
       · exact ⟨hg1, hs1, by omega, by omega, by omega⟩
       · simp only []; omega
     ·
      refine C rfl rfl (WS.off rfl (WS.off rfl (WS.off rfl (WS.off rfl (WS.off rfl (WS.off rfl (WS.off rfl (WS.off rfl (WS.off rfl ?_)))))))))
      refine WS.off rfl (WS.offC rfl (WS.off rfl (C rfl rfl (WS.nil [(0, _), (1, _), (2, _), (3, _), (8, _), (9, _), (34, _)] rfl ?_))))
      refine WC.condF rfl (WC.exit ?_)
      refine WC.run ?_
      have hs1 : Srt (cmL l) a (i + 1) e1 := by
        rw [he2] at hsr
        rw [he1]
        refine ins_srt w hsr (by omega) hl2 hX ?_
        first
        | exact .inl (by omega)
        | (refine .inr ⟨y30, ?_, ?_⟩
           · rw [hPj]; rw [he1, List.getElem?_append_left (by omega)] at hy30; exact hy30
           · have q1 : y25 = y_ := by (rw [he1, ← hPj, List.getElem?_append_right (Nat.le_refl _), Nat.sub_self] at hy25; simpa using hy25.symm)
             rw [← q1]; exact fun q => absurd (hz32.2 q) (by omega))
      refine C rfl rfl (WS.opV (.int .i64 (((i + 1) : Nat) : Int)) rfl rfl (add_i64 (a := i) (b := 1) (by omega)) (C rfl rfl (WS.nil [(0, _), (1, _), (2, _), (3, _), (8, _)] rfl ?_)))
      refine ⟨(e1, i + 1), rfl, ⟨(M13.bare), ?_⟩, ?_⟩
      · exact ⟨hg1, hs1, by omega, by omega, by omega⟩
      · simp only []; omega
   ·
    refine WS.nil [(0, _), (1, _), (2, _), (3, _), (8, _), (14, _)] rfl ?_
    refine WC.condF rfl (WC.exit ?_)
    refine ⟨[], res_nil, ?_⟩
    exact ⟨rfl, e, hg, hsr.mono (Nat.le_refl _) (by omega), M5⟩
end Go.Proofs.Ytfcpokolbifilaa.Wt
namespace Go.Proofs.Ytfcpokolbifilaa.Wt
open Go Go.Proofs.Ytfcpokolbifilaa.Am Go.Proofs.Ytfcpokolbifilaa.IrAll
open Go.Proofs.Ytfcpokolbifilaa.Am.WS renaming op → C
open List renaming length_append → D
open Go.Proofs.Ytfcpokolbifilaa.Am.WS renaming nil → F
open List renaming length_singleton → G
open List renaming length_cons → J
open List renaming length_nil → U
open List renaming length_drop → AQ
open List renaming length_take → AX
open Go.Proofs.Ytfcpokolbifilaa.Am.WC renaming run → AZ
open Go.Proofs.Ytfcpokolbifilaa.Am.WC renaming seq → BQ
open Go.Proofs.Ytfcpokolbifilaa.Am.WC renaming condF → BX
open Go.Proofs.Ytfcpokolbifilaa.Am.WC renaming skip → BZ
open Go.Proofs.Ytfcpokolbifilaa.Am.WS renaming off → CQ
open Go.Proofs.Ytfcpokolbifilaa.Am.WS renaming opV → CX
open Go.Proofs.Ytfcpokolbifilaa.Am.WC renaming condT → CZ
set_option linter.unusedVariables false
set_option linter.unusedSimpArgs false
variable {h base : H} {L : List Seg} {R : List Nat}
def cutQ {σ : Type} (E : σ → Env) (I : σ → H → Prop) (Q : Ex → Env → H → Prop) : Ex → Env → H → Prop
  | .norm, e, h => ∃ s, e = E s ∧ I s h
  | x, e, h => Q x e h
theorem WC.cutB {σ : Type} {tab : Nat → Option FD} {b : IC} {e : Env} {Q : Ex → Env → H → Prop} (E : σ → Env) (I : σ → H → Prop) (w : WC tab b e h (cutQ E I Q)) (k : ∀ s h2, I s h2 → Q .norm (E s) h2) : WC tab b e h Q := by
  obtain ⟨x, e2, h2, r, p⟩ := w
  cases x with
  | norm => obtain ⟨s, rfl, i⟩ := p; exact ⟨_, _, _, r, k s h2 i⟩
  | exit id => exact ⟨_, _, _, r, p⟩
  | ret => exact ⟨_, _, _, r, p⟩
section
variable {cm : Nat → Nat → Prop}
abbrev Le (cm : Nat → Nat → Prop) : Nat → Nat → Prop := fun x y => ¬ cm y x
theorem last_le (w : SW cm) {P : List Nat} {z : Nat} (hs : P.Pairwise (Le cm)) (hz : P[P.length - 1]? = some z) : ∀ x ∈ P, ¬ cm z x := by
  have h0 : 0 < P.length := by have := (List.getElem?_eq_some_iff.1 hz).1; omega
  obtain ⟨P2, e, _⟩ := last_cut rfl h0 hz
  rw [e] at hs ⊢
  exact before_last w hs (w.irr z)
theorem first_le (w : SW cm) {P : List Nat} {z : Nat} (hs : P.Pairwise (Le cm)) (hz : P[0]? = some z) : ∀ x ∈ P, ¬ cm x z := by
  cases P with
  | nil => simp at hz
  | cons y P =>
    simp at hz; subst hz
    intro x hx
    rcases List.mem_cons.1 hx with q | q
    · subst q; exact w.irr x
    · exact (List.pairwise_cons.1 hs).1 x q
theorem bnd_xy (w : SW cm) {X Y : List Nat} (hX : X.Pairwise (Le cm)) (hY : Y.Pairwise (Le cm)) (hb : X = [] ∨ Y = [] ∨ ∃ x y, X[0]? = some x ∧ Y[Y.length - 1]? = some y ∧ cm y x) : ∀ x ∈ X, ∀ y ∈ Y, cm y x := by
  intro x hx y hy
  rcases hb with rfl | rfl | ⟨x0, y0, h1, h2, h3⟩
  · simp at hx
  · simp at hy
  · exact w.lt_le (w.le_lt (last_le w hY h2 y hy) h3) (first_le w hX h1 x hx)
theorem bnd_ab (w : SW cm) {A B : List Nat} (hA : A.Pairwise (Le cm)) (hB : B.Pairwise (Le cm)) (hb : A = [] ∨ B = [] ∨ ∃ x y, A[A.length - 1]? = some x ∧ B[0]? = some y ∧ ¬ cm y x) : ∀ x ∈ A, ∀ y ∈ B, ¬ cm y x := by
  intro x hx y hy
  rcases hb with rfl | rfl | ⟨x0, y0, h1, h2, h3⟩
  · simp at hx
  · simp at hy
  · exact w.neg y x0 x (w.neg y y0 x0 (first_le w hB h2 y hy) h3) (last_le w hA h1 x hx)
theorem merge_srt (w : SW cm) {A1 X Y B2 S1 S2 : List Nat} (hA : (A1 ++ X).Pairwise (Le cm)) (hB : (Y ++ B2).Pairwise (Le cm)) (hxy : ∀ x ∈ X, ∀ y ∈ Y, cm y x) (hab : ∀ x ∈ A1, ∀ y ∈ B2, ¬ cm y x) (p1 : S1.Perm (A1 ++ Y)) (p2 : S2.Perm (X ++ B2)) (s1 : S1.Pairwise (Le cm)) (s2 : S2.Pairwise (Le cm)) : (S1 ++ S2).Pairwise (Le cm) := by
  rw [List.pairwise_append] at hA hB ⊢
  refine ⟨s1, s2, fun x hx y hy => ?_⟩
  rcases List.mem_append.1 (p1.mem_iff.1 hx) with a | a <;> rcases List.mem_append.1 (p2.mem_iff.1 hy) with b | b
  · exact hA.2.2 x a y b
  · exact hab x a y b
  · exact w.asym (hxy y b x a)
  · exact hB.2.2 x a y b
theorem sg_seg {a b : Nat} {d e P S Q : List Nat} (g : Sg cm a b d e) (hd : d = P ++ (S ++ Q)) (ha : P.length = a) (hb : a + S.length = b) : ∃ S2, e = P ++ (S2 ++ Q) ∧ S2.Perm S := by
  have hl : e.length = P.length + S.length + Q.length := by rw [g.1, hd]; simp; omega
  obtain ⟨P', S2, Y, Q', e1, e2, e3, e4⟩ := cut3 e (a := a) (m := b) (b := b) (by omega) (Nat.le_refl _) (by omega)
  have hY : Y = [] := List.eq_nil_of_length_eq_zero (by omega)
  rw [hY, List.nil_append] at e1
  have hP : P' = P := by
    apply List.ext_getElem?
    intro i
    by_cases q : i < a
    · have := g.2.1 i (.inl q)
      rw [e1, hd, List.getElem?_append_left (by omega), List.getElem?_append_left (by omega)] at this; exact this
    · rw [List.getElem?_eq_none (by omega), List.getElem?_eq_none (by omega)]
  have hQ : Q' = Q := by
    apply List.ext_getElem?
    intro i
    have := g.2.1 (b + i) (.inr (by omega))
    rw [e1, hd, List.getElem?_append_right (by omega), List.getElem?_append_right (by omega), List.getElem?_append_right (by omega), List.getElem?_append_right (by omega)] at this
    rw [show b + i - P'.length - S2.length = i by omega, show b + i - P.length - S.length = i by omega] at this
    exact this
  subst hP hQ
  refine ⟨S2, e1, ?_⟩
  have := g.2.2.1
  rw [e1, hd] at this
  exact (List.perm_append_right_iff _).1 ((List.perm_append_left_iff _).1 this)
theorem srch_up (w : SW cm) {lo hi h0 x y : Nat} {d : List Nat} (hs : Srt cm lo hi d) (hh : h0 < hi) (hy : d[h0]? = some y) (hc : cm y x) : ∀ k z, lo ≤ k → k < h0 + 1 → d[k]? = some z → cm z x := by
  intro k z h1 h2 hz
  by_cases q : k = h0
  · subst q; rw [hy] at hz; cases hz; exact hc
  · exact w.le_lt (hs k h0 z y h1 (by omega) hh hz hy) hc
theorem srch_dn (w : SW cm) {lo hi h0 x y : Nat} {d : List Nat} (hs : Srt cm lo hi d) (hh : lo ≤ h0) (hy : d[h0]? = some y) (hc : ¬ cm y x) : ∀ k z, h0 ≤ k → k < hi → d[k]? = some z → ¬ cm z x := by
  intro k z h1 h2 hz
  by_cases q : k = h0
  · subst q; rw [hy] at hz; cases hz; exact hc
  · exact w.neg z y x (hs h0 k y z hh (by omega) h2 hy hz) hc
theorem srch_up2 (w : SW cm) {lo hi h0 x y : Nat} {d : List Nat} (hs : Srt cm lo hi d) (hh : h0 < hi) (hy : d[h0]? = some y) (hc : ¬ cm x y) : ∀ k z, lo ≤ k → k < h0 + 1 → d[k]? = some z → ¬ cm x z := by
  intro k z h1 h2 hz
  by_cases q : k = h0
  · subst q; rw [hy] at hz; cases hz; exact hc
  · exact w.neg x y z hc (hs k h0 z y h1 (by omega) hh hz hy)
theorem srch_dn2 (w : SW cm) {lo hi h0 x y : Nat} {d : List Nat} (hs : Srt cm lo hi d) (hh : lo ≤ h0) (hy : d[h0]? = some y) (hc : cm x y) : ∀ k z, h0 ≤ k → k < hi → d[k]? = some z → cm x z := by
  intro k z h1 h2 hz
  by_cases q : k = h0
  · subst q; rw [hy] at hz; cases hz; exact hc
  · exact w.lt_le hc (hs h0 k y z hh (by omega) h2 hy hz)
theorem move_up (w : SW cm) {a m i b x : Nat} {d P Y1 Y2 Q : List Nat} (hd : d = P ++ ([x] ++ (Y1 ++ (Y2 ++ Q)))) (ha : P.length = a) (hm : m = a + 1) (hi : m + Y1.length = i) (hb : i + Y2.length = b) (hs : Srt cm m b d) (h1 : ∀ y ∈ Y1, cm y x) (h2 : ∀ y ∈ Y2, ¬ cm y x) : Sg cm a b d (P ++ (Y1 ++ ([x] ++ (Y2 ++ Q)))) ∧ Srt cm a b (P ++ (Y1 ++ ([x] ++ (Y2 ++ Q)))) := by
  have r := sg_rot (cm := cm) (P := P) (X := [x]) (Y := Y1) (Q := Y2 ++ Q) (fun z hz y hy => by rw [List.mem_singleton] at hz; subst hz; exact h1 y hy)
  refine ⟨by rw [hd]; exact r.mono (by omega) (by simp only [J, U]; omega), ?_⟩
  have s1 : (Y1 ++ Y2).Pairwise (Le cm) := by
    have := srt_iff (cm := cm) (P := P ++ [x]) (S := Y1 ++ Y2) (Q := Q)
    rw [D, D, J, U, show P.length + (0 + 1) = m by omega, show m + (Y1.length + Y2.length) = b by omega] at this
    apply this.1
    rw [hd] at hs
    simpa [List.append_assoc] using hs
  have s2 : (Y1 ++ (x :: Y2)).Pairwise (Le cm) := by
    rw [List.pairwise_append] at s1 ⊢
    refine ⟨s1.1, List.pairwise_cons.2 ⟨fun y hy => h2 y hy, s1.2.1⟩, fun y hy z hz => ?_⟩
    rcases List.mem_cons.1 hz with q | q
    · subst q; exact w.asym (h1 y hy)
    · exact s1.2.2 y hy z q
  have := srt_iff (cm := cm) (P := P) (S := Y1 ++ (x :: Y2)) (Q := Q)
  rw [D, J, ha, show a + (Y1.length + (Y2.length + 1)) = b by omega] at this
  have t := this.2 s2
  simpa [List.append_assoc] using t
theorem move_dn (w : SW cm) {a i m b x : Nat} {d P Y1 Y2 Q : List Nat} (hd : d = P ++ (Y1 ++ (Y2 ++ ([x] ++ Q)))) (ha : P.length = a) (hi : a + Y1.length = i) (hm : i + Y2.length = m) (hb : b = m + 1) (hs : Srt cm a m d) (h1 : ∀ y ∈ Y1, ¬ cm x y) (h2 : ∀ y ∈ Y2, cm x y) : Sg cm a b d (P ++ (Y1 ++ ([x] ++ (Y2 ++ Q)))) ∧ Srt cm a b (P ++ (Y1 ++ ([x] ++ (Y2 ++ Q)))) := by
  have r := sg_rot (cm := cm) (P := P ++ Y1) (X := Y2) (Y := [x]) (Q := Q) (fun z hz y hy => by rw [List.mem_singleton] at hy; subst hy; exact h2 z hz)
  refine ⟨by rw [hd]; have r2 := r.mono (a2 := a) (b2 := b) (by rw [D]; omega) (by simp only [D, J, U]; omega); simpa [List.append_assoc] using r2, ?_⟩
  have s1 : (Y1 ++ Y2).Pairwise (Le cm) := by
    have := srt_iff (cm := cm) (P := P) (S := Y1 ++ Y2) (Q := [x] ++ Q)
    rw [D, ha, show a + (Y1.length + Y2.length) = m by omega] at this
    apply this.1
    rw [hd] at hs
    simpa [List.append_assoc] using hs
  have s2 : (Y1 ++ (x :: Y2)).Pairwise (Le cm) := by
    rw [List.pairwise_append] at s1 ⊢
    refine ⟨s1.1, List.pairwise_cons.2 ⟨fun y hy => w.asym (h2 y hy), s1.2.1⟩, fun y hy z hz => ?_⟩
    rcases List.mem_cons.1 hz with q | q
    · subst q; exact h1 y hy
    · exact s1.2.2 y hy z q
  have := srt_iff (cm := cm) (P := P) (S := Y1 ++ (x :: Y2)) (Q := Q)
  rw [D, J, ha, show a + (Y1.length + (Y2.length + 1)) = b by omega] at this
  have t := this.2 s2
  simpa [List.append_assoc] using t
end
theorem shr1 (n : Nat) : Value.int .u64 (Int.fdiv (n : Int) (2 ^ (min (Int.toNat 1) IntKind.u64.bits))) = .int .u64 ((n / 2 : Nat) : Int) := by
  congr 1
  have : (2 : Int) ^ (min (Int.toNat 1) IntKind.u64.bits) = ((2 : Nat) : Int) := by decide
  rw [this, fdiv_nat]
theorem get_mid {P X Z : List Nat} {i j : Nat} (h : i < X.length) (hj : j = P.length + i) : (P ++ (X ++ Z))[j]? = X[i]? := by rw [hj]; exact mid_get h
theorem seg_all {d P X Z : List Nat} {q : Nat → Prop} {lo hi : Nat} (hd : d = P ++ (X ++ Z)) (hlo : lo = P.length) (hhi : hi = P.length + X.length) (h : ∀ k z, lo ≤ k → k < hi → d[k]? = some z → q z) : ∀ z ∈ X, q z := by
  intro z hz
  obtain ⟨i, h1, h2, h3⟩ := mem_seg hd hz
  exact h i z (by omega) (by omega) h3
theorem cut_up {d : List Nat} {a i b x : Nat} (hx : d[a]? = some x) (h1 : a + 1 ≤ i) (h2 : i ≤ b) (h3 : b ≤ d.length) : ∃ P Y1 Y2 Q, d = P ++ ([x] ++ (Y1 ++ (Y2 ++ Q))) ∧ P.length = a ∧ a + 1 + Y1.length = i ∧ i + Y2.length = b := by
  obtain ⟨P', Y1, Y2, Q, e1, e2, e3, e4⟩ := cut3 d h1 h2 h3
  have hl : P'[a + 1 - 1]? = some x := by rw [e1, List.getElem?_append_left (by omega)] at hx; exact hx
  obtain ⟨P, f1, f2⟩ := last_cut e2 (by omega) hl
  exact ⟨P, Y1, Y2, Q, by rw [e1, f1]; simp, by omega, by omega, by omega⟩
theorem cut_dn {d : List Nat} {a i m x : Nat} (hx : d[m]? = some x) (h1 : a ≤ i) (h2 : i ≤ m) : ∃ P Y1 Y2 Q, d = P ++ (Y1 ++ (Y2 ++ ([x] ++ Q))) ∧ P.length = a ∧ a + Y1.length = i ∧ i + Y2.length = m := by
  have hm := (List.getElem?_eq_some_iff.1 hx).1
  obtain ⟨P, Y1, Y2, Q, e1, e2, e3, e4⟩ := cut3 d h1 h2 (by omega)
  have hq : Q[0]? = some x := by
    rw [e1, List.getElem?_append_right (by omega), List.getElem?_append_right (by omega), List.getElem?_append_right (by omega)] at hx
    rw [← hx]; congr 1; omega
  cases Q with
  | nil => simp at hq
  | cons q Q => simp at hq; subst hq; exact ⟨P, Y1, Y2, Q, e1, e2, by omega, by omega⟩
theorem head_cut {B : List Nat} (h : 0 < B.length) : ∃ b B', B = b :: B' := by
  cases B with
  | nil => simp at h
  | cons b B => exact ⟨b, B, rfl⟩
theorem tail_cut {B : List Nat} (h : 0 < B.length) : ∃ b B', B = B' ++ [b] := by
  obtain ⟨P, e, _⟩ := last_cut (P := B) (x := B[B.length - 1]) rfl h (List.getElem?_eq_getElem _)
  exact ⟨_, P, e⟩
theorem swap_at' {A B : List Nat} {x y k : Nat} (hk : A.length = k) : ((A ++ (x :: y :: B)).set k y).set (k + 1) x = A ++ (y :: x :: B) := by subst hk; exact swap_at
theorem swap_dn' {A B : List Nat} {x y k : Nat} (hk : A.length + 1 = k) : ((A ++ (x :: y :: B)).set k x).set (k - 1) y = A ++ (y :: x :: B) := by subst hk; exact swap_dn
theorem cut5 (d : List Nat) {a i m e b : Nat} (h1 : a ≤ i) (h2 : i ≤ m) (h3 : m ≤ e) (h4 : e ≤ b) (h5 : b ≤ d.length) : ∃ Pa A1 X Y B2 Qb, d = Pa ++ (A1 ++ (X ++ (Y ++ (B2 ++ Qb)))) ∧ Pa.length = a ∧ a + A1.length = i ∧ i + X.length = m ∧ m + Y.length = e ∧ e + B2.length = b := by
  obtain ⟨P, X, Y, Q, e1, e2, e3, e4⟩ := cut3 d h2 h3 (by omega)
  obtain ⟨Pa, A1, f1, f2, f3⟩ := cut2 P (show a ≤ P.length by omega)
  have hl := congrArg List.length e1
  simp only [D] at hl
  obtain ⟨B2, Qb, g1, g2, g3⟩ := cut2 Q (show b - e ≤ Q.length by omega)
  exact ⟨Pa, A1, X, Y, B2, Qb, by rw [e1, f1, g1]; simp, f2, by omega, by omega, by omega, by omega⟩
section
variable {cm : Nat → Nat → Prop}
theorem srt_list {a b : Nat} {d P S Q : List Nat} (hd : d = P ++ (S ++ Q)) (ha : P.length = a) (hb : a + S.length = b) : Srt cm a b d ↔ S.Pairwise (Le cm) := by
  subst hd ha hb; exact srt_iff
theorem merge_facts (w : SW cm) {d : List Nat} {a m b i lo hi : Nat} (ham : a < m) (hmb : m < b) (hb : b ≤ d.length) (hs1 : Srt cm a m d) (hs2 : Srt cm m b d) (hlh : (a + b) / 2 < m ∧ lo = (a + b) / 2 + m - b ∧ hi = (a + b) / 2 ∨ m ≤ (a + b) / 2 ∧ lo = a ∧ hi = m) (h1 : lo ≤ i) (h2 : i ≤ hi)
    (hS : i = lo ∨ ∃ x y, d[i - 1]? = some x ∧ d[(a + b) / 2 + m - 1 - (i - 1)]? = some y ∧ ¬ cm y x) (hR : i = hi ∨ ∃ x y, d[i]? = some x ∧ d[(a + b) / 2 + m - 1 - i]? = some y ∧ cm y x) :
    ∃ Pa A1 X Y B2 Qb, d = Pa ++ (A1 ++ (X ++ (Y ++ (B2 ++ Qb)))) ∧ Pa.length = a ∧ a + A1.length = i ∧ i + X.length = m ∧ m + Y.length = (a + b) / 2 + m - i ∧ ((a + b) / 2 + m - i) + B2.length = b ∧ (A1 ++ X).Pairwise (Le cm) ∧ (Y ++ B2).Pairwise (Le cm) ∧ (∀ x ∈ X, ∀ y ∈ Y, cm y x) ∧ (∀ x ∈ A1, ∀ y ∈ B2, ¬ cm y x) := by
  obtain ⟨Pa, A1, X, Y, B2, Qb, e0, e1, e2, e3, e4, e5⟩ := cut5 d (a := a) (i := i) (m := m) (e := (a + b) / 2 + m - i) (b := b) (by omega) (by omega) (by omega) (by omega) hb
  have hA : (A1 ++ X).Pairwise (Le cm) := (srt_list (P := Pa) (S := A1 ++ X) (Q := Y ++ (B2 ++ Qb)) (by rw [e0]; simp) e1 (by rw [D]; omega)).1 hs1
  have hB : (Y ++ B2).Pairwise (Le cm) := (srt_list (P := Pa ++ (A1 ++ X)) (S := Y ++ B2) (Q := Qb) (by rw [e0]; simp) (by simp only [D]; omega) (by rw [D]; omega)).1 hs2
  have hA2 := List.pairwise_append.1 hA
  have hB2 := List.pairwise_append.1 hB
  refine ⟨Pa, A1, X, Y, B2, Qb, e0, e1, e2, e3, e4, e5, hA, hB, bnd_xy w hA2.2.1 hB2.1 ?_, bnd_ab w hA2.1 hB2.2.1 ?_⟩
  · rcases hR with q | ⟨x, y, q1, q2, q3⟩
    · by_cases c : X.length = 0
      · exact .inl (List.eq_nil_of_length_eq_zero c)
      · exact .inr (.inl (List.eq_nil_of_length_eq_zero (by omega)))
    · by_cases c : X.length = 0
      · exact .inl (List.eq_nil_of_length_eq_zero c)
      · by_cases c2 : Y.length = 0
        · exact .inr (.inl (List.eq_nil_of_length_eq_zero c2))
        · refine .inr (.inr ⟨x, y, ?_, ?_, q3⟩)
          · rw [show d = (Pa ++ A1) ++ (X ++ (Y ++ (B2 ++ Qb))) by rw [e0]; simp, get_mid (i := 0) (by omega) (by rw [D]; omega)] at q1; exact q1
          · rw [show d = (Pa ++ (A1 ++ X)) ++ (Y ++ (B2 ++ Qb)) by rw [e0]; simp, get_mid (i := Y.length - 1) (by omega) (by simp only [D]; omega)] at q2; exact q2
  · rcases hS with q | ⟨x, y, q1, q2, q3⟩
    · by_cases c : A1.length = 0
      · exact .inl (List.eq_nil_of_length_eq_zero c)
      · exact .inr (.inl (List.eq_nil_of_length_eq_zero (by omega)))
    · by_cases c : A1.length = 0
      · exact .inl (List.eq_nil_of_length_eq_zero c)
      · by_cases c2 : B2.length = 0
        · exact .inr (.inl (List.eq_nil_of_length_eq_zero c2))
        · refine .inr (.inr ⟨x, y, ?_, ?_, q3⟩)
          · rw [show d = Pa ++ (A1 ++ (X ++ (Y ++ (B2 ++ Qb)))) from e0, get_mid (i := A1.length - 1) (by omega) (by omega)] at q1; exact q1
          · rw [show d = (Pa ++ (A1 ++ (X ++ Y))) ++ (B2 ++ Qb) by rw [e0]; simp, get_mid (i := 0) (by omega) (by simp only [D]; omega)] at q2; exact q2
theorem merge_mid {d e Pa A1 X Y B2 Qb : List Nat} {a i m mid b : Nat} (hd : d = Pa ++ (A1 ++ (X ++ (Y ++ (B2 ++ Qb))))) (he : e = Pa ++ (A1 ++ (Y ++ (X ++ (B2 ++ Qb))))) (e1 : Pa.length = a) (e2 : a + A1.length = i) (e3 : i + X.length = m) (e4 : m + Y.length = mid + m - i) (e5 : (mid + m - i) + B2.length = b) (hmi : i ≤ mid) (hA : (A1 ++ X).Pairwise (Le cm)) (hB : (Y ++ B2).Pairwise (Le cm)) (hxy : ∀ x ∈ X, ∀ y ∈ Y, cm y x) :
    Sg cm a b d e ∧ Srt cm a i e ∧ Srt cm i mid e ∧ Srt cm mid (mid + m - i) e ∧ Srt cm (mid + m - i) b e := by
  have hA2 := List.pairwise_append.1 hA
  have hB2 := List.pairwise_append.1 hB
  have r := sg_rot (cm := cm) (P := Pa ++ A1) (X := X) (Y := Y) (Q := B2 ++ Qb) hxy
  refine ⟨?_, (srt_list (P := Pa) (S := A1) (Q := Y ++ (X ++ (B2 ++ Qb))) he e1 (by omega)).2 hA2.1, (srt_list (P := Pa ++ A1) (S := Y) (Q := X ++ (B2 ++ Qb)) (by rw [he]; simp) (by rw [D]; omega) (by omega)).2 hB2.1, (srt_list (P := Pa ++ (A1 ++ Y)) (S := X) (Q := B2 ++ Qb) (by rw [he]; simp) (by simp only [D]; omega) (by omega)).2 hA2.2.1, (srt_list (P := Pa ++ (A1 ++ (Y ++ X))) (S := B2) (Q := Qb) (by rw [he]; simp) (by simp only [D]; omega) (by omega)).2 hB2.2.1⟩
  have r2 := r.mono (a2 := a) (b2 := b) (by rw [D]; omega) (by rw [D]; omega)
  rw [hd, he]
  simpa [List.append_assoc] using r2
theorem merge_fin (w : SW cm) {d e e2 e3 Pa A1 X Y B2 Qb : List Nat} {a i m mid b : Nat} (he : e = Pa ++ (A1 ++ (Y ++ (X ++ (B2 ++ Qb))))) (h1 : Pa.length = a) (h2 : a + A1.length = i) (h3 : i + X.length = m) (h4 : m + Y.length = mid + m - i) (h5 : (mid + m - i) + B2.length = b) (hmi : i ≤ mid) (hA : (A1 ++ X).Pairwise (Le cm)) (hB : (Y ++ B2).Pairwise (Le cm)) (hxy : ∀ x ∈ X, ∀ y ∈ Y, cm y x) (hab : ∀ x ∈ A1, ∀ y ∈ B2, ¬ cm y x)
    (g0 : Sg cm a b d e) (g1 : Sg cm a mid e e2) (s1 : Srt cm a mid e2) (g2 : Sg cm mid b e2 e3) (s2 : Srt cm mid b e3) : Sg cm a b d e3 ∧ Srt cm a b e3 := by
  obtain ⟨S1, f1, p1⟩ := sg_seg (P := Pa) (S := A1 ++ Y) (Q := X ++ (B2 ++ Qb)) g1 (by rw [he]; simp) h1 (by rw [D]; omega)
  have l1 := p1.length_eq
  rw [D] at l1
  obtain ⟨S2, f2, p2⟩ := sg_seg (P := Pa ++ S1) (S := X ++ B2) (Q := Qb) g2 (by rw [f1]; simp) (by rw [D]; omega) (by rw [D]; omega)
  have l2 := p2.length_eq
  rw [D] at l2
  have t1 : S1.Pairwise (Le cm) := (srt_list (P := Pa) (S := S1) (Q := X ++ (B2 ++ Qb)) f1 h1 (by omega)).1 s1
  have t2 : S2.Pairwise (Le cm) := (srt_list (P := Pa ++ S1) (S := S2) (Q := Qb) f2 (by rw [D]; omega) (by omega)).1 s2
  have t := merge_srt w hA hB hxy hab p1 p2 t1 t2
  exact ⟨g0.trans ((g1.mono (Nat.le_refl _) (by omega)).trans (g2.mono (by omega) (Nat.le_refl _))), (srt_list (P := Pa) (S := S1 ++ S2) (Q := Qb) (by rw [f2]; simp) h1 (by rw [D]; omega)).2 t⟩
end
set_option maxHeartbeats 2000000 in
set_option maxRecDepth 8000 in
theorem symMerge_ran {p pc c n0 : Nat} {V : Value} {l : List JOp} (A : KJOp.Sl base V l) (hp : base.get pc = some ⟨[V], 0, false⟩) : ∀ (sz : Nat) {h : H} {a m b : Nat} {d : List Nat} (M : Mem base h ([(p, ⟨KNi.flat d, 1, false⟩)] :: L) []) (hsz : b - a ≤ sz) (hdl : ∀ x ∈ d, x < l.length) (ham : a < m) (hmb : m < b) (hb : b ≤ d.length) (hn0 : d.length = n0) (hs : d.length ≤ 1000000) (hs1 : Srt (cmL l) a m d) (hs2 : Srt (cmL l) m b d),
    Cll tab0 26 [.slice (some ⟨p, 0, none⟩) n0 c, .int .i64 (a : Int), .int .i64 (m : Int), .int .i64 (b : Int), .func (.func 18) #[] #[.pointer (some ⟨pc, 0, none⟩)]] h (fun v h2 => v = .tuple #[] ∧ ∃ e, Sg (cmL l) a b d e ∧ Srt (cmL l) a b e ∧ Mem base h2 ([(p, ⟨KNi.flat e, 1, false⟩)] :: L) []) := by
  have w := cmL_sw l
  intro sz
  induction sz with
  | zero => intro h a m b d M hsz; intros; exfalso; omega
  | succ sz ih =>
    intro h a m b d M hsz hdl ham hmb hb hn0 hs hs1 hs2
    refine Cll.code rfl rfl ?_
    refine WC.env [(0, _), (1, _), (2, _), (3, _), (4, _)] rfl ?_
    refine BQ (BQ (AZ (C rfl rfl (C rfl rfl (CX (.int .i64 (((m - a) : Nat) : Int)) rfl rfl (sub_i64 (a := m) (b := a) (by omega)) ?_)))))
    refine WS.eqlN (a := (m - a)) (b := 1) rfl rfl rfl (fun e28 => ?_) (fun e28 => ?_)
    ·
     have hb1_ : m = a + 1 := by omega
     obtain ⟨x0, hx0⟩ : ∃ x, d[a]? = some x := ⟨_, List.getElem?_eq_getElem (show a < d.length by omega)⟩
     refine F [(0, _), (1, _), (2, _), (3, _), (4, _), (28, _)] rfl ?_
     refine CZ rfl (BQ (AZ (C rfl rfl (C rfl rfl (F [(0, _), (1, _), (3, _), (4, _), (10, _)] rfl ?_)))))
     refine BQ (AZ (C rfl rfl (C rfl rfl (F [(0, _), (1, _), (4, _), (10, _), (11, _)] rfl ?_))))
     refine BQ (WC.block ?_)
     obtain ⟨L1, eL3, M2⟩ := Mem.name M.bare
     refine WC.loop (σ := Nat × Nat) (fun ((i, j)) => [(0, (.slice (some ⟨p, 0, none⟩) n0 c)), (1, (.int .i64 ((a : Nat) : Int))), (4, (.func (.func 18) #[] #[(.pointer (some ⟨pc, 0, none⟩))])), (10, (.int .i64 ((i : Nat) : Int))), (11, (.int .i64 ((j : Nat) : Int)))]) (fun ((i, j)) hh => Mem base hh (L1) [] ∧ m ≤ i ∧ i ≤ j ∧ j ≤ b ∧ (∀ k z, m ≤ k → k < i → d[k]? = some z → cmL l z x0) ∧ (∀ k z, j ≤ k → k < b → d[k]? = some z → ¬ cmL l z x0)) (fun ((i, j)) => j - i) (m, b) rfl ⟨M2, ?_⟩ ?_
     · exact ⟨by omega, by omega, by omega, fun k z q1 q2 => by omega, fun k z q1 q2 => by omega⟩
     ·rintro ⟨i, j⟩ h4 ⟨M5, ⟨hi1, hij, hj1, hup, hdn⟩⟩
      replace eL3 := eL3.symm; subst eL3
      refine WC.env [(0, _), (1, _), (4, _), (10, _), (11, _)] rfl ?_
      refine BQ (BQ (AZ (C rfl rfl (C rfl rfl ?_))))
      refine WS.lssN (a := i) (b := j) rfl rfl rfl (fun e33 => ?_) (fun e33 => ?_)
      ·
       refine F [(0, _), (1, _), (4, _), (10, _), (11, _), (33, _)] rfl ?_
       refine CZ rfl (BZ (WC.block (BQ (AZ (C rfl rfl (C rfl rfl (CX (.int .i64 (((i + j) : Nat) : Int)) rfl rfl (add_i64 (a := i) (b := j) (by omega)) (CX (.int .u64 (((i + j) : Nat) : Int)) rfl rfl (cv_u64 (n := (i + j)) (by omega)) (CX (.int .u64 (((i + j) / 2 : Nat) : Int)) rfl rfl (shr1 _) (CX (.int .i64 ((((i + j) / 2) : Nat) : Int)) rfl rfl (cv_i64 (n := ((i + j) / 2)) (by omega)) (C rfl rfl (F [(0, _), (1, _), (4, _), (10, _), (11, _), (12, _)] rfl ?_))))))))))))
       refine BQ (WC.draw M5 [] rfl ?_)
       intro rb6 h7 M8
       refine C rfl rfl (C rfl rfl (C rfl rfl ?_))
       obtain ⟨y43, hy43⟩ : ∃ y, (d)[((i + j) / 2)]? = some y := ⟨_, List.getElem?_eq_getElem (show ((i + j) / 2) < (d).length by first | omega | (simp only [AQ, AX, D, J, U, G]; omega) | (simp only [AQ, AX, D, J, U, G] at *; omega))⟩
       refine C rfl (op_iaV2 ((i + j) / 2) rfl rfl (by first | omega | (simp only [AQ, AX, D, J, U, G]; omega) | (simp only [AQ, AX, D, J, U, G] at *; omega))) (C rfl (op_ldH rfl (Row.ld (K := KNi) (k := 0) (M8.at 0 rfl) hy43 rfl)) (C rfl rfl (C rfl rfl ?_)))
       obtain ⟨y47, hy47⟩ : ∃ y, (d)[a]? = some y := ⟨_, List.getElem?_eq_getElem (show a < (d).length by first | omega | (simp only [AQ, AX, D, J, U, G]; omega) | (simp only [AQ, AX, D, J, U, G] at *; omega))⟩
       refine C rfl (op_iaV2 a rfl rfl (by first | omega | (simp only [AQ, AX, D, J, U, G]; omega) | (simp only [AQ, AX, D, J, U, G] at *; omega))) (C rfl (op_ldH rfl (Row.ld (K := KNi) (k := 0) (M8.at 0 rfl) hy47 rfl)) ?_)
       refine WS.call rfl rfl rfl (cmF_ran M8.here (i1 := y43) (j1 := y47) (A.mono M8.sub) (M8.sub _ _ hp) ((fun x hx => hdl x hx) _ (List.mem_of_getElem? hy43)) ((fun x hx => hdl x hx) _ (List.mem_of_getElem? hy47))) ?_
       rintro _ h9 ⟨z49, rfl, hz49, N10⟩
       have M11 := M8.trans N10
       refine WS.lss (a := z49) (b := (0 : Int)) rfl rfl rfl (fun e50 => ?_) (fun e50 => ?_)
       ·
        have hcm : cmL l y43 x0 := by rw [← (Option.some.inj (hy47.symm.trans hx0))]; exact hz49.1 e50
        refine F [(0, _), (1, _), (4, _), (10, _), (11, _), (12, _), (50, _)] rfl ?_
        refine CZ rfl (AZ (C rfl rfl (CX (.int .i64 (((((i + j) / 2) + 1) : Nat) : Int)) rfl rfl (add_i64 (a := ((i + j) / 2)) (b := 1) (by omega)) (C rfl rfl (F [(0, _), (1, _), (4, _), (10, _), (11, _)] rfl ?_)))))
        refine ⟨((i + j) / 2 + 1, j), rfl, ⟨(M11.bare), ?_⟩, ?_⟩
        · exact ⟨by omega, by omega, by omega, srch_up w hs2 (by omega) hy43 hcm, hdn⟩
        · simp only []; omega
       ·
        have hcm : ¬ cmL l y43 x0 := by rw [← (Option.some.inj (hy47.symm.trans hx0))]; exact fun q => absurd (hz49.2 q) (by omega)
        refine F [(0, _), (1, _), (4, _), (10, _), (11, _), (12, _), (50, _)] rfl ?_
        refine BX rfl (AZ (C rfl rfl (C rfl rfl (F [(0, _), (1, _), (4, _), (10, _), (11, _)] rfl ?_))))
        refine ⟨(i, (i + j) / 2), rfl, ⟨(M11.bare), ?_⟩, ?_⟩
        · exact ⟨by omega, by omega, by omega, hup, srch_dn w hs2 (by omega) hy43 hcm⟩
        · simp only []; omega
      ·
       refine F [(0, _), (1, _), (4, _), (10, _), (11, _), (33, _)] rfl ?_
       refine BX rfl (WC.exit ?_)
       refine BQ (BQ (AZ (C rfl rfl (C rfl rfl (F [(0, _), (10, _), (13, _)] rfl ?_)))))
       refine WC.block ?_
       obtain ⟨P_, Y1_, Y2_, Q_, hd_, hP_, hY1_, hY2_⟩ := cut_up (i := i) (b := b) hx0 (by omega) (by omega) (by omega)
       obtain ⟨L12, eL14, M13⟩ := Mem.name1 (M5.bare.focus 0 rfl)
       refine WC.loop (σ := List Nat × List Nat × List Nat × Nat) (fun ((e1, B1, B2, k)) => [(0, (.slice (some ⟨p, 0, none⟩) n0 c)), (10, (.int .i64 ((i : Nat) : Int))), (13, (.int .i64 ((k : Nat) : Int)))]) (fun ((e1, B1, B2, k)) hh => Mem base hh ([(p, ⟨KNi.flat e1, 1, false⟩)] :: L12) [] ∧ e1 = P_ ++ (B1 ++ ([x0] ++ (B2 ++ (Y2_ ++ Q_)))) ∧ Y1_ = B1 ++ B2 ∧ P_.length + B1.length = k ∧ e1.length = n0) (fun ((e1, B1, B2, k)) => i - k) (d, [], Y1_, a) rfl ⟨(by exact M13), ?_⟩ ?_
       · exact ⟨hd_, rfl, by simp; omega, hn0⟩
       ·rintro ⟨e1, B1, B2, k⟩ h15 ⟨M16, ⟨he1, hYB, hPk, hel⟩⟩
        replace eL14 := eL14.symm; subst eL14
        refine WC.env [(0, _), (10, _), (13, _)] rfl ?_
        have hB12 : Y1_.length = B1.length + B2.length := by rw [hYB, D]
        refine BQ (BQ (AZ (C rfl rfl (C rfl rfl (CX (.int .i64 (((i - 1) : Nat) : Int)) rfl rfl (sub_i64 (a := i) (b := 1) (by omega)) ?_)))))
        refine WS.lssN (a := k) (b := (i - 1)) rfl rfl rfl (fun e58 => ?_) (fun e58 => ?_)
        ·
         refine F [(0, _), (10, _), (13, _), (58, _)] rfl ?_
         refine CZ rfl (BZ (BQ (WC.block (WC.draw M16 [] rfl ?_))))
         intro rb17 h18 M19
         refine C rfl rfl (C rfl rfl (C rfl rfl (C rfl rfl (CX (.int .i64 (((k + 1) : Nat) : Int)) rfl rfl (add_i64 (a := k) (b := 1) (by omega)) (C rfl rfl (C rfl rfl (CX (.int .i64 (((k + 1) : Nat) : Int)) rfl rfl (add_i64 (a := k) (b := 1) (by omega)) ?_)))))))
         obtain ⟨y69, hy69⟩ : ∃ y, (e1)[(k + 1)]? = some y := ⟨_, List.getElem?_eq_getElem (show (k + 1) < (e1).length by first | omega | (simp only [List.length_set]; omega))⟩
         refine C rfl (op_iaV2 (k + 1) rfl rfl (by first | omega | (simp only [List.length_set]; omega))) (C rfl (op_ldH rfl (Row.ld (K := KNi) (k := 0) (M19.at 0 rfl) hy69 rfl)) (C rfl rfl (C rfl rfl ?_)))
         obtain ⟨y73, hy73⟩ : ∃ y, (e1)[k]? = some y := ⟨_, List.getElem?_eq_getElem (show k < (e1).length by first | omega | (simp only [List.length_set]; omega))⟩
         obtain ⟨b0, B3, hB2⟩ := head_cut (B := B2) (by omega)
         have hk69 : y69 = b0 := by rw [he1, hB2, ← List.append_assoc, List.getElem?_append_right (by rw [D]; omega), D, show k + 1 - (P_.length + B1.length) = 1 by omega] at hy69; simpa using hy69.symm
         have hk73 : y73 = x0 := by rw [he1, hB2, ← List.append_assoc, List.getElem?_append_right (by rw [D]; omega), D, show k - (P_.length + B1.length) = 0 by omega] at hy73; simpa using hy73.symm
         have hset : (e1.set k y69).set (k + 1) y73 = P_ ++ ((B1 ++ [b0]) ++ ([x0] ++ (B3 ++ (Y2_ ++ Q_)))) := by
           rw [hk69, hk73, he1, hB2, ← List.append_assoc]
           have := swap_at' (A := P_ ++ B1) (B := B3 ++ (Y2_ ++ Q_)) (x := x0) (y := b0) (k := k) (by rw [D]; omega)
           simpa [List.append_assoc] using this
         refine C rfl (op_iaV2 k rfl rfl (by first | omega | (simp only [List.length_set]; omega))) (C rfl (op_ldH rfl (Row.ld (K := KNi) (k := 0) (M19.at 0 rfl) hy73 rfl)) ?_)
         obtain ⟨y75, hy75⟩ : ∃ y, (e1)[k]? = some y := ⟨_, List.getElem?_eq_getElem (show k < (e1).length by first | omega | (simp only [List.length_set]; omega))⟩
         refine C rfl (op_iaV2 k rfl rfl (by first | omega | (simp only [List.length_set]; omega))) ?_
         refine WS.stN (K := KNi) (y' := (y69)) (M19.focus 0 rfl) (List.getElem?_eq_some_iff.1 hy75).1 rfl rfl rfl rfl rfl ?_
         intro h20 M21
         replace M21 : Mem _ _ ([(p, _)] :: L) _ := M21
         have hye22 : (e1.set k (y69))[k]? = some (y69) := List.getElem?_set_self (List.getElem?_eq_some_iff.1 hy75).1
         obtain ⟨y76, hy76⟩ : ∃ y, ((e1.set k (y69)))[(k + 1)]? = some y := ⟨_, List.getElem?_eq_getElem (show (k + 1) < ((e1.set k (y69))).length by first | omega | (simp only [List.length_set]; omega))⟩
         refine C rfl (op_iaV2 (k + 1) rfl rfl (by first | omega | (simp only [List.length_set]; omega))) ?_
         refine WS.stN (K := KNi) (y' := (y73)) (M21.focus 0 rfl) (List.getElem?_eq_some_iff.1 hy76).1 rfl rfl rfl rfl rfl ?_
         intro h23 M24
         replace M24 : Mem _ _ ([(p, _)] :: L) _ := M24
         have hye25 : ((e1.set k (y69)).set (k + 1) (y73))[(k + 1)]? = some (y73) := List.getElem?_set_self (List.getElem?_eq_some_iff.1 hy76).1
         refine F [(0, _), (10, _), (13, _)] rfl ?_
         refine AZ (C rfl rfl (CX (.int .i64 (((k + 1) : Nat) : Int)) rfl rfl (add_i64 (a := k) (b := 1) (by omega)) (C rfl rfl (F [(0, _), (10, _), (13, _)] rfl ?_))))
         refine ⟨(_, B1 ++ [b0], B3, k + 1), rfl, ⟨(M24.bare), ?_⟩, ?_⟩
         · exact ⟨hset, by rw [hYB, hB2]; simp, by simp; omega, by simp only [List.length_set]; exact hel⟩
         · simp only []; omega
        ·
         refine F [(0, _), (10, _), (13, _), (58, _)] rfl ?_
         refine BX rfl (WC.exit ?_)
         refine WC.ret (⟨[], res_nil, ?_⟩)
         have hB20 : B2 = [] := List.eq_nil_of_length_eq_zero (by omega)
         rw [hB20, List.append_nil] at hYB
         rw [hB20, ← hYB] at he1
         obtain ⟨g1, g2⟩ := move_up w hd_ hP_ hb1_ (by omega) hY2_ hs2 (seg_all (q := fun z => cmL l z x0) (P := P_ ++ [x0]) (X := Y1_) (Z := Y2_ ++ Q_) (lo := m) (hi := i) (by rw [hd_]; simp) (by simp; omega) (by simp; omega) hup) (seg_all (q := fun z => ¬ cmL l z x0) (P := P_ ++ ([x0] ++ Y1_)) (X := Y2_) (Z := Q_) (lo := j) (hi := b) (by rw [hd_]; simp) (by simp; omega) (by simp; omega) hdn)
         exact ⟨rfl, e1, by rw [he1]; exact g1, by rw [he1]; exact g2, M16⟩
    ·
     refine F [(0, _), (1, _), (2, _), (3, _), (4, _), (28, _)] rfl ?_
     refine BX rfl (BZ (BQ (BQ (AZ (C rfl rfl (C rfl rfl (CX (.int .i64 (((b - m) : Nat) : Int)) rfl rfl (sub_i64 (a := b) (b := m) (by omega)) ?_)))))))
     refine WS.eqlN (a := (b - m)) (b := 1) rfl rfl rfl (fun e80 => ?_) (fun e80 => ?_)
     ·
      have hb1_ : b = m + 1 := by omega
      obtain ⟨x0, hx0⟩ : ∃ x, d[m]? = some x := ⟨_, List.getElem?_eq_getElem (show m < d.length by omega)⟩
      refine F [(0, _), (1, _), (2, _), (3, _), (4, _), (80, _)] rfl ?_
      refine CZ rfl (BQ (AZ (C rfl rfl (C rfl rfl (F [(0, _), (2, _), (4, _), (14, _)] rfl ?_)))))
      refine BQ (AZ (C rfl rfl (C rfl rfl (F [(0, _), (2, _), (4, _), (14, _), (15, _)] rfl ?_))))
      refine BQ (WC.block ?_)
      obtain ⟨L26, eL28, M27⟩ := Mem.name M.bare
      refine WC.loop (σ := Nat × Nat) (fun ((i, j)) => [(0, (.slice (some ⟨p, 0, none⟩) n0 c)), (2, (.int .i64 ((m : Nat) : Int))), (4, (.func (.func 18) #[] #[(.pointer (some ⟨pc, 0, none⟩))])), (14, (.int .i64 ((i : Nat) : Int))), (15, (.int .i64 ((j : Nat) : Int)))]) (fun ((i, j)) hh => Mem base hh (L26) [] ∧ a ≤ i ∧ i ≤ j ∧ j ≤ m ∧ (∀ k z, a ≤ k → k < i → d[k]? = some z → ¬ cmL l x0 z) ∧ (∀ k z, j ≤ k → k < m → d[k]? = some z → cmL l x0 z)) (fun ((i, j)) => j - i) (a, m) rfl ⟨M27, ?_⟩ ?_
      · exact ⟨by omega, by omega, by omega, fun k z q1 q2 => by omega, fun k z q1 q2 => by omega⟩
      ·rintro ⟨i, j⟩ h29 ⟨M30, ⟨hi1, hij, hj1, hup, hdn⟩⟩
       replace eL28 := eL28.symm; subst eL28
       refine WC.env [(0, _), (2, _), (4, _), (14, _), (15, _)] rfl ?_
       refine BQ (BQ (AZ (C rfl rfl (C rfl rfl ?_))))
       refine WS.lssN (a := i) (b := j) rfl rfl rfl (fun e85 => ?_) (fun e85 => ?_)
       ·
        refine F [(0, _), (2, _), (4, _), (14, _), (15, _), (85, _)] rfl ?_
        refine CZ rfl (BZ (WC.block (BQ (AZ (C rfl rfl (C rfl rfl (CX (.int .i64 (((i + j) : Nat) : Int)) rfl rfl (add_i64 (a := i) (b := j) (by omega)) (CX (.int .u64 (((i + j) : Nat) : Int)) rfl rfl (cv_u64 (n := (i + j)) (by omega)) (CX (.int .u64 (((i + j) / 2 : Nat) : Int)) rfl rfl (shr1 _) (CX (.int .i64 ((((i + j) / 2) : Nat) : Int)) rfl rfl (cv_i64 (n := ((i + j) / 2)) (by omega)) (C rfl rfl (F [(0, _), (2, _), (4, _), (14, _), (15, _), (16, _)] rfl ?_))))))))))))
        refine BQ (WC.draw M30 [] rfl ?_)
        intro rb31 h32 M33
        refine C rfl rfl (C rfl rfl (C rfl rfl ?_))
        obtain ⟨y95, hy95⟩ : ∃ y, (d)[m]? = some y := ⟨_, List.getElem?_eq_getElem (show m < (d).length by first | omega | (simp only [AQ, AX, D, J, U, G]; omega) | (simp only [AQ, AX, D, J, U, G] at *; omega))⟩
        refine C rfl (op_iaV2 m rfl rfl (by first | omega | (simp only [AQ, AX, D, J, U, G]; omega) | (simp only [AQ, AX, D, J, U, G] at *; omega))) (C rfl (op_ldH rfl (Row.ld (K := KNi) (k := 0) (M33.at 0 rfl) hy95 rfl)) (C rfl rfl (C rfl rfl ?_)))
        obtain ⟨y99, hy99⟩ : ∃ y, (d)[((i + j) / 2)]? = some y := ⟨_, List.getElem?_eq_getElem (show ((i + j) / 2) < (d).length by first | omega | (simp only [AQ, AX, D, J, U, G]; omega) | (simp only [AQ, AX, D, J, U, G] at *; omega))⟩
        refine C rfl (op_iaV2 ((i + j) / 2) rfl rfl (by first | omega | (simp only [AQ, AX, D, J, U, G]; omega) | (simp only [AQ, AX, D, J, U, G] at *; omega))) (C rfl (op_ldH rfl (Row.ld (K := KNi) (k := 0) (M33.at 0 rfl) hy99 rfl)) ?_)
        refine WS.call rfl rfl rfl (cmF_ran M33.here (i1 := y95) (j1 := y99) (A.mono M33.sub) (M33.sub _ _ hp) ((fun x hx => hdl x hx) _ (List.mem_of_getElem? hy95)) ((fun x hx => hdl x hx) _ (List.mem_of_getElem? hy99))) ?_
        rintro _ h34 ⟨z101, rfl, hz101, N35⟩
        have M36 := M33.trans N35
        refine WS.lss (a := z101) (b := (0 : Int)) rfl rfl rfl (fun e102 => ?_) (fun e102 => ?_)
        ·
         have hcm : cmL l x0 y99 := by rw [← (Option.some.inj (hy95.symm.trans hx0))]; exact hz101.1 e102
         refine CX (.bool false) rfl rfl rfl (F [(0, _), (2, _), (4, _), (14, _), (15, _), (16, _), (103, _)] rfl ?_)
         refine BX rfl (AZ (C rfl rfl (C rfl rfl (F [(0, _), (2, _), (4, _), (14, _), (15, _)] rfl ?_))))
         refine ⟨(i, (i + j) / 2), rfl, ⟨(M36.bare), ?_⟩, ?_⟩
         · exact ⟨by omega, by omega, by omega, hup, srch_dn2 w hs1 (by omega) hy99 hcm⟩
         · simp only []; omega
        ·
         have hcm : ¬ cmL l x0 y99 := by rw [← (Option.some.inj (hy95.symm.trans hx0))]; exact fun q => absurd (hz101.2 q) (by omega)
         refine CX (.bool true) rfl rfl rfl (F [(0, _), (2, _), (4, _), (14, _), (15, _), (16, _), (103, _)] rfl ?_)
         refine CZ rfl (AZ (C rfl rfl (CX (.int .i64 (((((i + j) / 2) + 1) : Nat) : Int)) rfl rfl (add_i64 (a := ((i + j) / 2)) (b := 1) (by omega)) (C rfl rfl (F [(0, _), (2, _), (4, _), (14, _), (15, _)] rfl ?_)))))
         refine ⟨((i + j) / 2 + 1, j), rfl, ⟨(M36.bare), ?_⟩, ?_⟩
         · exact ⟨by omega, by omega, by omega, srch_up2 w hs1 (by omega) hy99 hcm, hdn⟩
         · simp only []; omega
       ·
        refine F [(0, _), (2, _), (4, _), (14, _), (15, _), (85, _)] rfl ?_
        refine BX rfl (WC.exit ?_)
        refine BQ (BQ (AZ (C rfl rfl (C rfl rfl (F [(0, _), (14, _), (17, _)] rfl ?_)))))
        refine WC.block ?_
        obtain ⟨P_, Y1_, Y2_, Q_, hd_, hP_, hY1_, hY2_⟩ := cut_dn (a := a) (i := i) hx0 (by omega) (by omega)
        obtain ⟨L37, eL39, M38⟩ := Mem.name1 (M30.bare.focus 0 rfl)
        refine WC.loop (σ := List Nat × List Nat × List Nat × Nat) (fun ((e1, B1, B2, k)) => [(0, (.slice (some ⟨p, 0, none⟩) n0 c)), (14, (.int .i64 ((i : Nat) : Int))), (17, (.int .i64 ((k : Nat) : Int)))]) (fun ((e1, B1, B2, k)) hh => Mem base hh ([(p, ⟨KNi.flat e1, 1, false⟩)] :: L37) [] ∧ e1 = P_ ++ (Y1_ ++ (B1 ++ ([x0] ++ (B2 ++ Q_)))) ∧ Y2_ = B1 ++ B2 ∧ i + B1.length = k ∧ e1.length = n0) (fun ((e1, B1, B2, k)) => k) (d, Y2_, [], m) rfl ⟨(by exact M38), ?_⟩ ?_
        · exact ⟨hd_, by simp, by omega, hn0⟩
        ·rintro ⟨e1, B1, B2, k⟩ h40 ⟨M41, ⟨he1, hYB, hPk, hel⟩⟩
         replace eL39 := eL39.symm; subst eL39
         refine WC.env [(0, _), (14, _), (17, _)] rfl ?_
         have hB12 : Y2_.length = B1.length + B2.length := by rw [hYB, D]
         refine BQ (BQ (AZ (C rfl rfl (C rfl rfl ?_))))
         refine WS.gtrN (a := k) (b := i) rfl rfl rfl (fun e110 => ?_) (fun e110 => ?_)
         ·
          refine F [(0, _), (14, _), (17, _), (110, _)] rfl ?_
          refine CZ rfl (BZ (BQ (WC.block (WC.draw M41 [] rfl ?_))))
          intro rb42 h43 M44
          refine C rfl rfl (C rfl rfl (C rfl rfl (C rfl rfl (CX (.int .i64 (((k - 1) : Nat) : Int)) rfl rfl (sub_i64 (a := k) (b := 1) (by omega)) (C rfl rfl (C rfl rfl (CX (.int .i64 (((k - 1) : Nat) : Int)) rfl rfl (sub_i64 (a := k) (b := 1) (by omega)) ?_)))))))
          obtain ⟨y121, hy121⟩ : ∃ y, (e1)[(k - 1)]? = some y := ⟨_, List.getElem?_eq_getElem (show (k - 1) < (e1).length by first | omega | (simp only [List.length_set]; omega))⟩
          refine C rfl (op_iaV2 (k - 1) rfl rfl (by first | omega | (simp only [List.length_set]; omega))) (C rfl (op_ldH rfl (Row.ld (K := KNi) (k := 0) (M44.at 0 rfl) hy121 rfl)) (C rfl rfl (C rfl rfl ?_)))
          obtain ⟨y125, hy125⟩ : ∃ y, (e1)[k]? = some y := ⟨_, List.getElem?_eq_getElem (show k < (e1).length by first | omega | (simp only [List.length_set]; omega))⟩
          obtain ⟨b0, B3, hB2⟩ := tail_cut (B := B1) (by omega)
          have hB3 : i + B3.length + 1 = k := by rw [hB2, D, J, U] at hPk; omega
          have hk121 : y121 = b0 := by rw [he1, hB2, show P_ ++ (Y1_ ++ ((B3 ++ [b0]) ++ ([x0] ++ (B2 ++ Q_)))) = (P_ ++ (Y1_ ++ B3)) ++ (b0 :: x0 :: (B2 ++ Q_)) by simp, List.getElem?_append_right (by simp only [D]; omega), show k - 1 - (P_ ++ (Y1_ ++ B3)).length = 0 by (simp only [D]; omega)] at hy121; simpa using hy121.symm
          have hk125 : y125 = x0 := by rw [he1, hB2, show P_ ++ (Y1_ ++ ((B3 ++ [b0]) ++ ([x0] ++ (B2 ++ Q_)))) = (P_ ++ (Y1_ ++ B3)) ++ (b0 :: x0 :: (B2 ++ Q_)) by simp, List.getElem?_append_right (by simp only [D]; omega), show k - (P_ ++ (Y1_ ++ B3)).length = 1 by (simp only [D]; omega)] at hy125; simpa using hy125.symm
          have hset : (e1.set k y121).set (k - 1) y125 = P_ ++ (Y1_ ++ (B3 ++ ([x0] ++ ((b0 :: B2) ++ Q_)))) := by
            rw [hk121, hk125, he1, hB2]
            have := swap_dn' (A := P_ ++ (Y1_ ++ B3)) (B := B2 ++ Q_) (x := b0) (y := x0) (k := k) (by simp only [D]; omega)
            simpa [List.append_assoc] using this
          refine C rfl (op_iaV2 k rfl rfl (by first | omega | (simp only [List.length_set]; omega))) (C rfl (op_ldH rfl (Row.ld (K := KNi) (k := 0) (M44.at 0 rfl) hy125 rfl)) ?_)
          obtain ⟨y127, hy127⟩ : ∃ y, (e1)[k]? = some y := ⟨_, List.getElem?_eq_getElem (show k < (e1).length by first | omega | (simp only [List.length_set]; omega))⟩
          refine C rfl (op_iaV2 k rfl rfl (by first | omega | (simp only [List.length_set]; omega))) ?_
          refine WS.stN (K := KNi) (y' := (y121)) (M44.focus 0 rfl) (List.getElem?_eq_some_iff.1 hy127).1 rfl rfl rfl rfl rfl ?_
          intro h45 M46
          replace M46 : Mem _ _ ([(p, _)] :: L) _ := M46
          have hye47 : (e1.set k (y121))[k]? = some (y121) := List.getElem?_set_self (List.getElem?_eq_some_iff.1 hy127).1
          obtain ⟨y128, hy128⟩ : ∃ y, ((e1.set k (y121)))[(k - 1)]? = some y := ⟨_, List.getElem?_eq_getElem (show (k - 1) < ((e1.set k (y121))).length by first | omega | (simp only [List.length_set]; omega))⟩
          refine C rfl (op_iaV2 (k - 1) rfl rfl (by first | omega | (simp only [List.length_set]; omega))) ?_
          refine WS.stN (K := KNi) (y' := (y125)) (M46.focus 0 rfl) (List.getElem?_eq_some_iff.1 hy128).1 rfl rfl rfl rfl rfl ?_
          intro h48 M49
          replace M49 : Mem _ _ ([(p, _)] :: L) _ := M49
          have hye50 : ((e1.set k (y121)).set (k - 1) (y125))[(k - 1)]? = some (y125) := List.getElem?_set_self (List.getElem?_eq_some_iff.1 hy128).1
          refine F [(0, _), (14, _), (17, _)] rfl ?_
          refine AZ (C rfl rfl (CX (.int .i64 (((k - 1) : Nat) : Int)) rfl rfl (sub_i64 (a := k) (b := 1) (by omega)) (C rfl rfl (F [(0, _), (14, _), (17, _)] rfl ?_))))
          refine ⟨(_, B3, b0 :: B2, k - 1), rfl, ⟨(M49.bare), ?_⟩, ?_⟩
          · exact ⟨hset, by rw [hYB, hB2]; simp, by omega, by simp only [List.length_set]; exact hel⟩
          · simp only []; omega
         ·
          refine F [(0, _), (14, _), (17, _), (110, _)] rfl ?_
          refine BX rfl (WC.exit ?_)
          refine WC.ret (⟨[], res_nil, ?_⟩)
          have hB20 : B1 = [] := List.eq_nil_of_length_eq_zero (by omega)
          rw [hB20, List.nil_append] at hYB
          rw [hB20, ← hYB] at he1
          obtain ⟨g1, g2⟩ := move_dn w hd_ hP_ hY1_ hY2_ hb1_ hs1 (seg_all (q := fun z => ¬ cmL l x0 z) (P := P_) (X := Y1_) (Z := Y2_ ++ ([x0] ++ Q_)) (lo := a) (hi := i) (by rw [hd_]) (by omega) (by omega) hup) (seg_all (q := fun z => cmL l x0 z) (P := P_ ++ Y1_) (X := Y2_) (Z := [x0] ++ Q_) (lo := j) (hi := m) (by rw [hd_]; simp) (by simp; omega) (by simp; omega) hdn)
          exact ⟨rfl, e1, by rw [he1]; exact g1, by rw [he1]; exact g2, M41⟩
     ·
      refine F [(0, _), (1, _), (2, _), (3, _), (4, _), (80, _)] rfl ?_
      refine BX rfl (BZ (BQ (AZ (C rfl rfl (C rfl rfl (CX (.int .i64 (((a + b) : Nat) : Int)) rfl rfl (add_i64 (a := a) (b := b) (by omega)) (CX (.int .u64 (((a + b) : Nat) : Int)) rfl rfl (cv_u64 (n := (a + b)) (by omega)) (CX (.int .u64 (((a + b) / 2 : Nat) : Int)) rfl rfl (shr1 _) (CX (.int .i64 ((((a + b) / 2) : Nat) : Int)) rfl rfl (cv_i64 (n := ((a + b) / 2)) (by omega)) (C rfl rfl (F [(0, _), (1, _), (2, _), (3, _), (4, _), (18, _)] rfl ?_)))))))))))
      refine BQ (AZ (C rfl rfl (C rfl rfl (CX (.int .i64 (((((a + b) / 2) + m) : Nat) : Int)) rfl rfl (add_i64 (a := ((a + b) / 2)) (b := m) (by omega)) (C rfl rfl (F [(0, _), (1, _), (2, _), (3, _), (4, _), (18, _), (19, _)] rfl ?_))))))
      refine BQ (AZ (C rfl rfl (C rfl rfl (F [(0, _), (1, _), (2, _), (3, _), (4, _), (18, _), (19, _)] rfl ?_))))
      refine BQ (WC.cutB (σ := Nat × Nat × Env) (fun (lo, hi, X_) => (0, (.slice (some ⟨p, 0, none⟩) n0 c)) :: (1, (.int .i64 ((a : Nat) : Int))) :: (2, (.int .i64 ((m : Nat) : Int))) :: (3, (.int .i64 ((b : Nat) : Int))) :: (4, (.func (.func 18) #[] #[(.pointer (some ⟨pc, 0, none⟩))])) :: (18, (.int .i64 ((((a + b) / 2) : Nat) : Int))) :: (19, (.int .i64 (((((a + b) / 2) + m) : Nat) : Int))) :: (20, (.int .i64 ((lo : Nat) : Int))) :: (21, (.int .i64 ((hi : Nat) : Int))) :: X_) (fun (lo, hi, X_) hh => Mem base hh ([(p, ⟨KNi.flat d, 1, false⟩)] :: L) [] ∧ ((a + b) / 2 < m ∧ lo = (a + b) / 2 + m - b ∧ hi = (a + b) / 2 ∨ m ≤ (a + b) / 2 ∧ lo = a ∧ hi = m)) ?_ ?_)
      ·
       refine BQ (AZ (C rfl rfl (C rfl rfl ?_)))
       refine WS.gtrN (a := m) (b := ((a + b) / 2)) rfl rfl rfl (fun e140 => ?_) (fun e140 => ?_)
       ·
        refine F [(0, _), (1, _), (2, _), (3, _), (4, _), (18, _), (19, _), (140, _)] rfl ?_
        refine CZ rfl (BQ (AZ (C rfl rfl (C rfl rfl (CX (.int .i64 ((((((a + b) / 2) + m) - b) : Nat) : Int)) rfl rfl (sub_i64 (a := (((a + b) / 2) + m)) (b := b) (by omega)) (C rfl rfl (F [(0, _), (1, _), (2, _), (3, _), (4, _), (18, _), (19, _), (20, _)] rfl ?_)))))))
        refine AZ (C rfl rfl (C rfl rfl (F [(0, _), (1, _), (2, _), (3, _), (4, _), (18, _), (19, _), (20, _), (21, _)] rfl ?_)))
        refine ⟨(((((a + b) / 2) + m) - b), ((a + b) / 2), []), rfl, M, ?_⟩
        omega
       ·
        refine F [(0, _), (1, _), (2, _), (3, _), (4, _), (18, _), (19, _), (140, _)] rfl ?_
        refine BX rfl (BQ (AZ (C rfl rfl (C rfl rfl (F [(0, _), (1, _), (2, _), (3, _), (4, _), (18, _), (19, _), (20, _)] rfl ?_)))))
        refine AZ (C rfl rfl (C rfl rfl (F [(0, _), (1, _), (2, _), (3, _), (4, _), (18, _), (19, _), (20, _), (21, _)] rfl ?_)))
        refine ⟨(a, m, []), rfl, M, ?_⟩
        omega
      ·rintro ⟨lo, hi, X_⟩ h51 ⟨M52, hlh⟩
       refine BQ (AZ (C rfl rfl (CX (.int .i64 ((((((a + b) / 2) + m) - 1) : Nat) : Int)) rfl rfl (sub_i64 (a := (((a + b) / 2) + m)) (b := 1) (by omega)) (C rfl rfl (F [(0, _), (1, _), (2, _), (3, _), (4, _), (18, _), (19, _), (20, _), (21, _), (22, _)] rfl ?_)))))
       refine BQ (WC.block ?_)
       obtain ⟨L53, eL55, M54⟩ := Mem.name M52.bare
       refine WC.loop (σ := Nat × Nat) (fun ((i, j)) => [(0, (.slice (some ⟨p, 0, none⟩) n0 c)), (1, (.int .i64 ((a : Nat) : Int))), (2, (.int .i64 ((m : Nat) : Int))), (3, (.int .i64 ((b : Nat) : Int))), (4, (.func (.func 18) #[] #[(.pointer (some ⟨pc, 0, none⟩))])), (18, (.int .i64 ((((a + b) / 2) : Nat) : Int))), (19, (.int .i64 (((((a + b) / 2) + m) : Nat) : Int))), (20, (.int .i64 ((i : Nat) : Int))), (21, (.int .i64 ((j : Nat) : Int))), (22, (.int .i64 ((((((a + b) / 2) + m) - 1) : Nat) : Int)))]) (fun ((i, j)) hh => Mem base hh (L53) [] ∧ lo ≤ i ∧ i ≤ j ∧ j ≤ hi ∧ (i = lo ∨ ∃ x y, d[i - 1]? = some x ∧ d[(a + b) / 2 + m - 1 - (i - 1)]? = some y ∧ ¬ cmL l y x) ∧ (j = hi ∨ ∃ x y, d[j]? = some x ∧ d[(a + b) / 2 + m - 1 - j]? = some y ∧ cmL l y x)) (fun ((i, j)) => j - i) (lo, hi) rfl ⟨M54, ?_⟩ ?_
       · exact ⟨by omega, by omega, by omega, .inl rfl, .inl rfl⟩
       ·rintro ⟨i, j⟩ h56 ⟨M57, ⟨hi1, hij, hj1, hSb, hRb⟩⟩
        replace eL55 := eL55.symm; subst eL55
        refine WC.env [(0, _), (1, _), (2, _), (3, _), (4, _), (18, _), (19, _), (20, _), (21, _), (22, _)] rfl ?_
        refine BQ (BQ (AZ (C rfl rfl (C rfl rfl ?_))))
        refine WS.lssN (a := i) (b := j) rfl rfl rfl (fun e151 => ?_) (fun e151 => ?_)
        ·
         refine F [(0, _), (1, _), (2, _), (3, _), (4, _), (18, _), (19, _), (20, _), (21, _), (22, _), (151, _)] rfl ?_
         refine CZ rfl (BZ (WC.block (BQ (AZ (C rfl rfl (C rfl rfl (CX (.int .i64 (((i + j) : Nat) : Int)) rfl rfl (add_i64 (a := i) (b := j) (by omega)) (CX (.int .u64 (((i + j) : Nat) : Int)) rfl rfl (cv_u64 (n := (i + j)) (by omega)) (CX (.int .u64 (((i + j) / 2 : Nat) : Int)) rfl rfl (shr1 _) (CX (.int .i64 ((((i + j) / 2) : Nat) : Int)) rfl rfl (cv_i64 (n := ((i + j) / 2)) (by omega)) (C rfl rfl (F [(0, _), (1, _), (2, _), (3, _), (4, _), (18, _), (19, _), (20, _), (21, _), (22, _), (23, _)] rfl ?_))))))))))))
         refine BQ (WC.draw M57 [] rfl ?_)
         intro rb58 h59 M60
         refine C rfl rfl (C rfl rfl (C rfl rfl (C rfl rfl (CX (.int .i64 (((((((a + b) / 2) + m) - 1) - ((i + j) / 2)) : Nat) : Int)) rfl rfl (sub_i64 (a := ((((a + b) / 2) + m) - 1)) (b := ((i + j) / 2)) (by omega)) ?_))))
         obtain ⟨y163, hy163⟩ : ∃ y, (d)[(((((a + b) / 2) + m) - 1) - ((i + j) / 2))]? = some y := ⟨_, List.getElem?_eq_getElem (show (((((a + b) / 2) + m) - 1) - ((i + j) / 2)) < (d).length by first | omega | (simp only [AQ, AX, D, J, U, G]; omega) | (simp only [AQ, AX, D, J, U, G] at *; omega))⟩
         refine C rfl (op_iaV2 (((((a + b) / 2) + m) - 1) - ((i + j) / 2)) rfl rfl (by first | omega | (simp only [AQ, AX, D, J, U, G]; omega) | (simp only [AQ, AX, D, J, U, G] at *; omega))) (C rfl (op_ldH rfl (Row.ld (K := KNi) (k := 0) (M60.at 0 rfl) hy163 rfl)) (C rfl rfl (C rfl rfl ?_)))
         obtain ⟨y167, hy167⟩ : ∃ y, (d)[((i + j) / 2)]? = some y := ⟨_, List.getElem?_eq_getElem (show ((i + j) / 2) < (d).length by first | omega | (simp only [AQ, AX, D, J, U, G]; omega) | (simp only [AQ, AX, D, J, U, G] at *; omega))⟩
         refine C rfl (op_iaV2 ((i + j) / 2) rfl rfl (by first | omega | (simp only [AQ, AX, D, J, U, G]; omega) | (simp only [AQ, AX, D, J, U, G] at *; omega))) (C rfl (op_ldH rfl (Row.ld (K := KNi) (k := 0) (M60.at 0 rfl) hy167 rfl)) ?_)
         refine WS.call rfl rfl rfl (cmF_ran M60.here (i1 := y163) (j1 := y167) (A.mono M60.sub) (M60.sub _ _ hp) ((fun x hx => hdl x hx) _ (List.mem_of_getElem? hy163)) ((fun x hx => hdl x hx) _ (List.mem_of_getElem? hy167))) ?_
         rintro _ h61 ⟨z169, rfl, hz169, N62⟩
         have M63 := M60.trans N62
         refine WS.lss (a := z169) (b := (0 : Int)) rfl rfl rfl (fun e170 => ?_) (fun e170 => ?_)
         ·
          refine CX (.bool false) rfl rfl rfl (F [(0, _), (1, _), (2, _), (3, _), (4, _), (18, _), (19, _), (20, _), (21, _), (22, _), (23, _), (171, _)] rfl ?_)
          refine BX rfl (AZ (C rfl rfl (C rfl rfl (F [(0, _), (1, _), (2, _), (3, _), (4, _), (18, _), (19, _), (20, _), (21, _), (22, _)] rfl ?_))))
          refine ⟨(i, (i + j) / 2), rfl, ⟨(M63.bare), ?_⟩, ?_⟩
          · exact ⟨by omega, by omega, by omega, hSb, .inr ⟨_, _, hy167, hy163, hz169.1 e170⟩⟩
          · simp only []; omega
         ·
          refine CX (.bool true) rfl rfl rfl (F [(0, _), (1, _), (2, _), (3, _), (4, _), (18, _), (19, _), (20, _), (21, _), (22, _), (23, _), (171, _)] rfl ?_)
          refine CZ rfl (AZ (C rfl rfl (CX (.int .i64 (((((i + j) / 2) + 1) : Nat) : Int)) rfl rfl (add_i64 (a := ((i + j) / 2)) (b := 1) (by omega)) (C rfl rfl (F [(0, _), (1, _), (2, _), (3, _), (4, _), (18, _), (19, _), (20, _), (21, _), (22, _)] rfl ?_)))))
          refine ⟨((i + j) / 2 + 1, j), rfl, ⟨(M63.bare), ?_⟩, ?_⟩
          · exact ⟨by omega, by omega, by omega, .inr ⟨_, _, by rw [Nat.add_sub_cancel]; exact hy167, by rw [Nat.add_sub_cancel]; exact hy163, fun q => absurd (hz169.2 q) (by omega)⟩, hRb⟩
          · simp only []; omega
        ·
         refine F [(0, _), (1, _), (2, _), (3, _), (4, _), (18, _), (19, _), (20, _), (21, _), (22, _), (151, _)] rfl ?_
         refine BX rfl (WC.exit ?_)
         refine BQ (AZ (C rfl rfl (C rfl rfl (CX (.int .i64 ((((((a + b) / 2) + m) - i) : Nat) : Int)) rfl rfl (sub_i64 (a := (((a + b) / 2) + m)) (b := i) (by omega)) (C rfl rfl (F [(0, _), (1, _), (2, _), (3, _), (4, _), (18, _), (20, _), (24, _)] rfl ?_))))))
         refine BQ (BQ (AZ ?_))
         have hij_ : i = j := by omega
         subst hij_
         obtain ⟨Pa_, A1_, X_1, Y_1, B2_, Qb_, hcut, hPa, hA1, hX1, hY1, hB2, hAX, hYB2, hxy, hab⟩ := merge_facts w ham hmb hb hs1 hs2 hlh hi1 hj1 hSb hRb
         have hll := congrArg List.length hcut
         simp only [D] at hll
         refine C rfl rfl (C rfl rfl ?_)
         refine WS.lssN (a := i) (b := m) rfl rfl rfl (fun e180 => ?_) (fun e180 => ?_)
         ·
          refine C rfl rfl (C rfl rfl (C rfl rfl ?_))
          refine WS.lssN (a := m) (b := ((((a + b) / 2) + m) - i)) rfl rfl rfl (fun e184 => ?_) (fun e184 => ?_)
          ·
           refine C rfl rfl (F [(0, _), (1, _), (2, _), (3, _), (4, _), (18, _), (20, _), (24, _), (185, _)] rfl ?_)
           refine CZ rfl (AZ (C rfl rfl (C rfl rfl (C rfl rfl (C rfl rfl (C rfl rfl ?_))))))
           refine WS.call rfl rfl rfl (rotate_ran (d := d) (P := Pa_ ++ A1_) (X := X_1) (Y := Y_1) (Q := B2_ ++ Qb_) (M57.focus 0 rfl) (by rw [hcut]; simp only [List.append_assoc]) (by rw [D]; omega) (by omega) (by omega) (by omega) (by omega) (by omega) (by omega)) ?_
           rintro _ h64 ⟨rfl, M65⟩
           replace M65 : Mem _ _ ([(p, _)] :: L) _ := M65
           refine F [(0, _), (1, _), (3, _), (4, _), (18, _), (20, _), (24, _)] rfl ?_
           refine BQ (BQ (AZ ?_))
           obtain ⟨ee, hee⟩ : ∃ e_, e_ = ((Pa_ ++ A1_) ++ (Y_1 ++ (X_1 ++ (B2_ ++ Qb_)))) := ⟨_, rfl⟩
           have Mgee := M65
           rw [← hee] at Mgee
           have hEE : ee = (Pa_ ++ (A1_ ++ (Y_1 ++ (X_1 ++ (B2_ ++ Qb_))))) := by rw [hee]; simp only [List.append_assoc]
           obtain ⟨hgE, srA, srY, srX, srB⟩ := merge_mid hcut hEE hPa hA1 hX1 hY1 hB2 (by omega) hAX hYB2 hxy
           have hel := hgE.1
           refine C rfl rfl (C rfl rfl ?_)
           refine WS.lssN (a := a) (b := i) rfl rfl rfl (fun e194 => ?_) (fun e194 => ?_)
           ·
            refine C rfl rfl (C rfl rfl (C rfl rfl ?_))
            refine WS.lssN (a := i) (b := ((a + b) / 2)) rfl rfl rfl (fun e198 => ?_) (fun e198 => ?_)
            ·
             refine C rfl rfl (F [(0, _), (1, _), (3, _), (4, _), (18, _), (20, _), (24, _), (199, _)] rfl ?_)
             refine CZ rfl (AZ (C rfl rfl (C rfl rfl (C rfl rfl (C rfl rfl (C rfl rfl ?_))))))
             refine WS.call rfl rfl rfl (ih (d := ee) (Mgee.focus 0 rfl) (by omega) (fun x hx => hdl x (hgE.2.2.1.mem_iff.1 hx)) (by omega) (by omega) (by omega) (by omega) (by omega) srA srY) ?_
             rintro _ h66 ⟨rfl, f1_, hgf1, hsf1, M67⟩
             replace M67 : Mem _ _ ([(p, _)] :: L) _ := M67
             refine F [(0, _), (3, _), (4, _), (18, _), (24, _)] rfl ?_
             refine BQ (AZ ?_)
             obtain ⟨e2, he2⟩ : ∃ e_, e_ = f1_ := ⟨_, rfl⟩
             have Mge2 := M67
             rw [← he2] at Mge2
             have hg2 : Sg (cmL l) a ((a + b) / 2) ee e2 := by rw [he2]; exact hgf1
             have hsr2 : Srt (cmL l) a ((a + b) / 2) e2 := by rw [he2]; exact hsf1
             have srX2 := srX.keep (e := e2) (fun k q1 q2 => hg2.2.1 k (.inr q1))
             have srB2 := srB.keep (e := e2) (fun k q1 q2 => hg2.2.1 k (.inr (by omega)))
             have hel2 := hg2.1
             refine C rfl rfl (C rfl rfl ?_)
             refine WS.lssN (a := ((a + b) / 2)) (b := ((((a + b) / 2) + m) - i)) rfl rfl rfl (fun e208 => ?_) (fun e208 => ?_)
             ·
              refine C rfl rfl (C rfl rfl (C rfl rfl ?_))
              refine WS.lssN (a := ((((a + b) / 2) + m) - i)) (b := b) rfl rfl rfl (fun e212 => ?_) (fun e212 => ?_)
              ·
               refine C rfl rfl (F [(0, _), (3, _), (4, _), (18, _), (24, _), (213, _)] rfl ?_)
               refine CZ rfl (AZ (C rfl rfl (C rfl rfl (C rfl rfl (C rfl rfl (C rfl rfl ?_))))))
               refine WS.call rfl rfl rfl (ih (d := e2) (Mge2.focus 0 rfl) (by omega) (fun x hx => hdl x (hgE.2.2.1.mem_iff.1 (hg2.2.2.1.mem_iff.1 hx))) (by omega) (by omega) (by omega) (by omega) (by omega) srX2 srB2) ?_
               rintro _ h68 ⟨rfl, f2_, hgf2, hsf2, M69⟩
               replace M69 : Mem _ _ ([(p, _)] :: L) _ := M69
               refine F [] rfl ?_
               refine ⟨[], res_nil, ?_⟩
               obtain ⟨q1, q2⟩ := merge_fin w hEE hPa hA1 hX1 hY1 hB2 (by omega) hAX hYB2 hxy hab hgE hg2 hsr2 hgf2 hsf2
               exact ⟨rfl, _, q1, q2, M69⟩
              ·
               refine C rfl rfl (F [(0, _), (3, _), (4, _), (18, _), (24, _), (213, _)] rfl ?_)
               refine BX rfl (BZ (⟨[], res_nil, ?_⟩))
               have hsr3 : Srt (cmL l) ((a + b) / 2) b e2 := by
                 first
                 | (rw [show (a + b) / 2 + m - i = b by omega] at srX2; exact srX2)
                 | (rw [show (a + b) / 2 + m - i = ((a + b) / 2) by omega] at srB2; exact srB2)
               obtain ⟨q1, q2⟩ := merge_fin w hEE hPa hA1 hX1 hY1 hB2 (by omega) hAX hYB2 hxy hab hgE hg2 hsr2 Sg.refl hsr3
               exact ⟨rfl, _, q1, q2, Mge2⟩
             ·
              refine C rfl rfl (CQ rfl (CQ rfl (CQ rfl (C rfl rfl (F [(0, _), (3, _), (4, _), (18, _), (24, _), (213, _)] rfl ?_)))))
              refine BX rfl (BZ (⟨[], res_nil, ?_⟩))
              have hsr3 : Srt (cmL l) ((a + b) / 2) b e2 := by
                first
                | (rw [show (a + b) / 2 + m - i = b by omega] at srX2; exact srX2)
                | (rw [show (a + b) / 2 + m - i = ((a + b) / 2) by omega] at srB2; exact srB2)
              obtain ⟨q1, q2⟩ := merge_fin w hEE hPa hA1 hX1 hY1 hB2 (by omega) hAX hYB2 hxy hab hgE hg2 hsr2 Sg.refl hsr3
              exact ⟨rfl, _, q1, q2, Mge2⟩
            ·
             refine C rfl rfl (F [(0, _), (1, _), (3, _), (4, _), (18, _), (20, _), (24, _), (199, _)] rfl ?_)
             refine BX rfl (BZ (BQ (AZ ?_)))
             obtain ⟨e2, he2⟩ : ∃ e_, e_ = ee := ⟨_, rfl⟩
             have Mge2 := Mgee
             rw [← he2] at Mge2
             have hg2 : Sg (cmL l) a ((a + b) / 2) ee e2 := by rw [he2]; exact Sg.refl
             have hsr2 : Srt (cmL l) a ((a + b) / 2) e2 := by
               rw [he2]
               first
               | (rw [show ((a + b) / 2) = i by omega]; exact srA)
               | (rw [show i = a by omega] at srY; exact srY)
             have srX2 := srX.keep (e := e2) (fun k q1 q2 => hg2.2.1 k (.inr q1))
             have srB2 := srB.keep (e := e2) (fun k q1 q2 => hg2.2.1 k (.inr (by omega)))
             have hel2 := hg2.1
             refine C rfl rfl (C rfl rfl ?_)
             refine WS.lssN (a := ((a + b) / 2)) (b := ((((a + b) / 2) + m) - i)) rfl rfl rfl (fun e208 => ?_) (fun e208 => ?_)
             ·
              refine C rfl rfl (C rfl rfl (C rfl rfl ?_))
              refine WS.lssN (a := ((((a + b) / 2) + m) - i)) (b := b) rfl rfl rfl (fun e212 => ?_) (fun e212 => ?_)
              ·
               refine C rfl rfl (F [(0, _), (3, _), (4, _), (18, _), (24, _), (213, _)] rfl ?_)
               refine CZ rfl (AZ (C rfl rfl (C rfl rfl (C rfl rfl (C rfl rfl (C rfl rfl ?_))))))
               refine WS.call rfl rfl rfl (ih (d := e2) (Mge2.focus 0 rfl) (by omega) (fun x hx => hdl x (hgE.2.2.1.mem_iff.1 (hg2.2.2.1.mem_iff.1 hx))) (by omega) (by omega) (by omega) (by omega) (by omega) srX2 srB2) ?_
               rintro _ h70 ⟨rfl, f2_, hgf2, hsf2, M71⟩
               replace M71 : Mem _ _ ([(p, _)] :: L) _ := M71
               refine F [] rfl ?_
               refine ⟨[], res_nil, ?_⟩
               obtain ⟨q1, q2⟩ := merge_fin w hEE hPa hA1 hX1 hY1 hB2 (by omega) hAX hYB2 hxy hab hgE hg2 hsr2 hgf2 hsf2
               exact ⟨rfl, _, q1, q2, M71⟩
              ·
               refine C rfl rfl (F [(0, _), (3, _), (4, _), (18, _), (24, _), (213, _)] rfl ?_)
               refine BX rfl (BZ (⟨[], res_nil, ?_⟩))
               have hsr3 : Srt (cmL l) ((a + b) / 2) b e2 := by
                 first
                 | (rw [show (a + b) / 2 + m - i = b by omega] at srX2; exact srX2)
                 | (rw [show (a + b) / 2 + m - i = ((a + b) / 2) by omega] at srB2; exact srB2)
               obtain ⟨q1, q2⟩ := merge_fin w hEE hPa hA1 hX1 hY1 hB2 (by omega) hAX hYB2 hxy hab hgE hg2 hsr2 Sg.refl hsr3
               exact ⟨rfl, _, q1, q2, Mge2⟩
             ·
              refine C rfl rfl (CQ rfl (CQ rfl (CQ rfl (C rfl rfl (F [(0, _), (3, _), (4, _), (18, _), (24, _), (213, _)] rfl ?_)))))
              refine BX rfl (BZ (⟨[], res_nil, ?_⟩))
              have hsr3 : Srt (cmL l) ((a + b) / 2) b e2 := by
                first
                | (rw [show (a + b) / 2 + m - i = b by omega] at srX2; exact srX2)
                | (rw [show (a + b) / 2 + m - i = ((a + b) / 2) by omega] at srB2; exact srB2)
              obtain ⟨q1, q2⟩ := merge_fin w hEE hPa hA1 hX1 hY1 hB2 (by omega) hAX hYB2 hxy hab hgE hg2 hsr2 Sg.refl hsr3
              exact ⟨rfl, _, q1, q2, Mge2⟩
           ·
            refine C rfl rfl (CQ rfl (CQ rfl (CQ rfl (C rfl rfl (F [(0, _), (1, _), (3, _), (4, _), (18, _), (20, _), (24, _), (199, _)] rfl ?_)))))
            refine BX rfl (BZ (BQ (AZ ?_)))
            obtain ⟨e2, he2⟩ : ∃ e_, e_ = ee := ⟨_, rfl⟩
            have Mge2 := Mgee
            rw [← he2] at Mge2
            have hg2 : Sg (cmL l) a ((a + b) / 2) ee e2 := by rw [he2]; exact Sg.refl
            have hsr2 : Srt (cmL l) a ((a + b) / 2) e2 := by
              rw [he2]
              first
              | (rw [show ((a + b) / 2) = i by omega]; exact srA)
              | (rw [show i = a by omega] at srY; exact srY)
            have srX2 := srX.keep (e := e2) (fun k q1 q2 => hg2.2.1 k (.inr q1))
            have srB2 := srB.keep (e := e2) (fun k q1 q2 => hg2.2.1 k (.inr (by omega)))
            have hel2 := hg2.1
            refine C rfl rfl (C rfl rfl ?_)
            refine WS.lssN (a := ((a + b) / 2)) (b := ((((a + b) / 2) + m) - i)) rfl rfl rfl (fun e208 => ?_) (fun e208 => ?_)
            ·
             refine C rfl rfl (C rfl rfl (C rfl rfl ?_))
             refine WS.lssN (a := ((((a + b) / 2) + m) - i)) (b := b) rfl rfl rfl (fun e212 => ?_) (fun e212 => ?_)
             ·
              refine C rfl rfl (F [(0, _), (3, _), (4, _), (18, _), (24, _), (213, _)] rfl ?_)
              refine CZ rfl (AZ (C rfl rfl (C rfl rfl (C rfl rfl (C rfl rfl (C rfl rfl ?_))))))
              refine WS.call rfl rfl rfl (ih (d := e2) (Mge2.focus 0 rfl) (by omega) (fun x hx => hdl x (hgE.2.2.1.mem_iff.1 (hg2.2.2.1.mem_iff.1 hx))) (by omega) (by omega) (by omega) (by omega) (by omega) srX2 srB2) ?_
              rintro _ h72 ⟨rfl, f2_, hgf2, hsf2, M73⟩
              replace M73 : Mem _ _ ([(p, _)] :: L) _ := M73
              refine F [] rfl ?_
              refine ⟨[], res_nil, ?_⟩
              obtain ⟨q1, q2⟩ := merge_fin w hEE hPa hA1 hX1 hY1 hB2 (by omega) hAX hYB2 hxy hab hgE hg2 hsr2 hgf2 hsf2
              exact ⟨rfl, _, q1, q2, M73⟩
             ·
              refine C rfl rfl (F [(0, _), (3, _), (4, _), (18, _), (24, _), (213, _)] rfl ?_)
              refine BX rfl (BZ (⟨[], res_nil, ?_⟩))
              have hsr3 : Srt (cmL l) ((a + b) / 2) b e2 := by
                first
                | (rw [show (a + b) / 2 + m - i = b by omega] at srX2; exact srX2)
                | (rw [show (a + b) / 2 + m - i = ((a + b) / 2) by omega] at srB2; exact srB2)
              obtain ⟨q1, q2⟩ := merge_fin w hEE hPa hA1 hX1 hY1 hB2 (by omega) hAX hYB2 hxy hab hgE hg2 hsr2 Sg.refl hsr3
              exact ⟨rfl, _, q1, q2, Mge2⟩
            ·
             refine C rfl rfl (CQ rfl (CQ rfl (CQ rfl (C rfl rfl (F [(0, _), (3, _), (4, _), (18, _), (24, _), (213, _)] rfl ?_)))))
             refine BX rfl (BZ (⟨[], res_nil, ?_⟩))
             have hsr3 : Srt (cmL l) ((a + b) / 2) b e2 := by
               first
               | (rw [show (a + b) / 2 + m - i = b by omega] at srX2; exact srX2)
               | (rw [show (a + b) / 2 + m - i = ((a + b) / 2) by omega] at srB2; exact srB2)
             obtain ⟨q1, q2⟩ := merge_fin w hEE hPa hA1 hX1 hY1 hB2 (by omega) hAX hYB2 hxy hab hgE hg2 hsr2 Sg.refl hsr3
             exact ⟨rfl, _, q1, q2, Mge2⟩
          ·
           refine C rfl rfl (F [(0, _), (1, _), (2, _), (3, _), (4, _), (18, _), (20, _), (24, _), (185, _)] rfl ?_)
           refine BX rfl (BZ (BQ (BQ (AZ ?_))))
           obtain ⟨ee, hee⟩ : ∃ e_, e_ = d := ⟨_, rfl⟩
           have Mgee := M57
           rw [← hee] at Mgee
           have hEE : ee = (Pa_ ++ (A1_ ++ (Y_1 ++ (X_1 ++ (B2_ ++ Qb_))))) := by
             rw [hee, hcut]
             by_cases q : X_1.length = 0
             · rw [List.eq_nil_of_length_eq_zero q]; simp
             · rw [List.eq_nil_of_length_eq_zero (show Y_1.length = 0 by omega)]; simp
           obtain ⟨hgE, srA, srY, srX, srB⟩ := merge_mid hcut hEE hPa hA1 hX1 hY1 hB2 (by omega) hAX hYB2 hxy
           have hel := hgE.1
           refine C rfl rfl (C rfl rfl ?_)
           refine WS.lssN (a := a) (b := i) rfl rfl rfl (fun e194 => ?_) (fun e194 => ?_)
           ·
            refine C rfl rfl (C rfl rfl (C rfl rfl ?_))
            refine WS.lssN (a := i) (b := ((a + b) / 2)) rfl rfl rfl (fun e198 => ?_) (fun e198 => ?_)
            ·
             refine C rfl rfl (F [(0, _), (1, _), (3, _), (4, _), (18, _), (20, _), (24, _), (199, _)] rfl ?_)
             refine CZ rfl (AZ (C rfl rfl (C rfl rfl (C rfl rfl (C rfl rfl (C rfl rfl ?_))))))
             refine WS.call rfl rfl rfl (ih (d := ee) (Mgee.focus 0 rfl) (by omega) (fun x hx => hdl x (hgE.2.2.1.mem_iff.1 hx)) (by omega) (by omega) (by omega) (by omega) (by omega) srA srY) ?_
             rintro _ h74 ⟨rfl, f1_, hgf1, hsf1, M75⟩
             replace M75 : Mem _ _ ([(p, _)] :: L) _ := M75
             refine F [(0, _), (3, _), (4, _), (18, _), (24, _)] rfl ?_
             refine BQ (AZ ?_)
             obtain ⟨e2, he2⟩ : ∃ e_, e_ = f1_ := ⟨_, rfl⟩
             have Mge2 := M75
             rw [← he2] at Mge2
             have hg2 : Sg (cmL l) a ((a + b) / 2) ee e2 := by rw [he2]; exact hgf1
             have hsr2 : Srt (cmL l) a ((a + b) / 2) e2 := by rw [he2]; exact hsf1
             have srX2 := srX.keep (e := e2) (fun k q1 q2 => hg2.2.1 k (.inr q1))
             have srB2 := srB.keep (e := e2) (fun k q1 q2 => hg2.2.1 k (.inr (by omega)))
             have hel2 := hg2.1
             refine C rfl rfl (C rfl rfl ?_)
             refine WS.lssN (a := ((a + b) / 2)) (b := ((((a + b) / 2) + m) - i)) rfl rfl rfl (fun e208 => ?_) (fun e208 => ?_)
             ·
              refine C rfl rfl (C rfl rfl (C rfl rfl ?_))
              refine WS.lssN (a := ((((a + b) / 2) + m) - i)) (b := b) rfl rfl rfl (fun e212 => ?_) (fun e212 => ?_)
              ·
               refine C rfl rfl (F [(0, _), (3, _), (4, _), (18, _), (24, _), (213, _)] rfl ?_)
               refine CZ rfl (AZ (C rfl rfl (C rfl rfl (C rfl rfl (C rfl rfl (C rfl rfl ?_))))))
               refine WS.call rfl rfl rfl (ih (d := e2) (Mge2.focus 0 rfl) (by omega) (fun x hx => hdl x (hgE.2.2.1.mem_iff.1 (hg2.2.2.1.mem_iff.1 hx))) (by omega) (by omega) (by omega) (by omega) (by omega) srX2 srB2) ?_
               rintro _ h76 ⟨rfl, f2_, hgf2, hsf2, M77⟩
               replace M77 : Mem _ _ ([(p, _)] :: L) _ := M77
               refine F [] rfl ?_
               refine ⟨[], res_nil, ?_⟩
               obtain ⟨q1, q2⟩ := merge_fin w hEE hPa hA1 hX1 hY1 hB2 (by omega) hAX hYB2 hxy hab hgE hg2 hsr2 hgf2 hsf2
               exact ⟨rfl, _, q1, q2, M77⟩
              ·
               refine C rfl rfl (F [(0, _), (3, _), (4, _), (18, _), (24, _), (213, _)] rfl ?_)
               refine BX rfl (BZ (⟨[], res_nil, ?_⟩))
               have hsr3 : Srt (cmL l) ((a + b) / 2) b e2 := by
                 first
                 | (rw [show (a + b) / 2 + m - i = b by omega] at srX2; exact srX2)
                 | (rw [show (a + b) / 2 + m - i = ((a + b) / 2) by omega] at srB2; exact srB2)
               obtain ⟨q1, q2⟩ := merge_fin w hEE hPa hA1 hX1 hY1 hB2 (by omega) hAX hYB2 hxy hab hgE hg2 hsr2 Sg.refl hsr3
               exact ⟨rfl, _, q1, q2, Mge2⟩
             ·
              refine C rfl rfl (CQ rfl (CQ rfl (CQ rfl (C rfl rfl (F [(0, _), (3, _), (4, _), (18, _), (24, _), (213, _)] rfl ?_)))))
              refine BX rfl (BZ (⟨[], res_nil, ?_⟩))
              have hsr3 : Srt (cmL l) ((a + b) / 2) b e2 := by
                first
                | (rw [show (a + b) / 2 + m - i = b by omega] at srX2; exact srX2)
                | (rw [show (a + b) / 2 + m - i = ((a + b) / 2) by omega] at srB2; exact srB2)
              obtain ⟨q1, q2⟩ := merge_fin w hEE hPa hA1 hX1 hY1 hB2 (by omega) hAX hYB2 hxy hab hgE hg2 hsr2 Sg.refl hsr3
              exact ⟨rfl, _, q1, q2, Mge2⟩
            ·
             refine C rfl rfl (F [(0, _), (1, _), (3, _), (4, _), (18, _), (20, _), (24, _), (199, _)] rfl ?_)
             refine BX rfl (BZ (BQ (AZ ?_)))
             obtain ⟨e2, he2⟩ : ∃ e_, e_ = ee := ⟨_, rfl⟩
             have Mge2 := Mgee
             rw [← he2] at Mge2
             have hg2 : Sg (cmL l) a ((a + b) / 2) ee e2 := by rw [he2]; exact Sg.refl
             have hsr2 : Srt (cmL l) a ((a + b) / 2) e2 := by
               rw [he2]
               first
               | (rw [show ((a + b) / 2) = i by omega]; exact srA)
               | (rw [show i = a by omega] at srY; exact srY)
             have srX2 := srX.keep (e := e2) (fun k q1 q2 => hg2.2.1 k (.inr q1))
             have srB2 := srB.keep (e := e2) (fun k q1 q2 => hg2.2.1 k (.inr (by omega)))
             have hel2 := hg2.1
             refine C rfl rfl (C rfl rfl ?_)
             refine WS.lssN (a := ((a + b) / 2)) (b := ((((a + b) / 2) + m) - i)) rfl rfl rfl (fun e208 => ?_) (fun e208 => ?_)
             ·
              refine C rfl rfl (C rfl rfl (C rfl rfl ?_))
              refine WS.lssN (a := ((((a + b) / 2) + m) - i)) (b := b) rfl rfl rfl (fun e212 => ?_) (fun e212 => ?_)
              ·
               refine C rfl rfl (F [(0, _), (3, _), (4, _), (18, _), (24, _), (213, _)] rfl ?_)
               refine CZ rfl (AZ (C rfl rfl (C rfl rfl (C rfl rfl (C rfl rfl (C rfl rfl ?_))))))
               refine WS.call rfl rfl rfl (ih (d := e2) (Mge2.focus 0 rfl) (by omega) (fun x hx => hdl x (hgE.2.2.1.mem_iff.1 (hg2.2.2.1.mem_iff.1 hx))) (by omega) (by omega) (by omega) (by omega) (by omega) srX2 srB2) ?_
               rintro _ h78 ⟨rfl, f2_, hgf2, hsf2, M79⟩
               replace M79 : Mem _ _ ([(p, _)] :: L) _ := M79
               refine F [] rfl ?_
               refine ⟨[], res_nil, ?_⟩
               obtain ⟨q1, q2⟩ := merge_fin w hEE hPa hA1 hX1 hY1 hB2 (by omega) hAX hYB2 hxy hab hgE hg2 hsr2 hgf2 hsf2
               exact ⟨rfl, _, q1, q2, M79⟩
              ·
               refine C rfl rfl (F [(0, _), (3, _), (4, _), (18, _), (24, _), (213, _)] rfl ?_)
               refine BX rfl (BZ (⟨[], res_nil, ?_⟩))
               have hsr3 : Srt (cmL l) ((a + b) / 2) b e2 := by
                 first
                 | (rw [show (a + b) / 2 + m - i = b by omega] at srX2; exact srX2)
                 | (rw [show (a + b) / 2 + m - i = ((a + b) / 2) by omega] at srB2; exact srB2)
               obtain ⟨q1, q2⟩ := merge_fin w hEE hPa hA1 hX1 hY1 hB2 (by omega) hAX hYB2 hxy hab hgE hg2 hsr2 Sg.refl hsr3
               exact ⟨rfl, _, q1, q2, Mge2⟩
             ·
              refine C rfl rfl (CQ rfl (CQ rfl (CQ rfl (C rfl rfl (F [(0, _), (3, _), (4, _), (18, _), (24, _), (213, _)] rfl ?_)))))
              refine BX rfl (BZ (⟨[], res_nil, ?_⟩))
              have hsr3 : Srt (cmL l) ((a + b) / 2) b e2 := by
                first
                | (rw [show (a + b) / 2 + m - i = b by omega] at srX2; exact srX2)
                | (rw [show (a + b) / 2 + m - i = ((a + b) / 2) by omega] at srB2; exact srB2)
              obtain ⟨q1, q2⟩ := merge_fin w hEE hPa hA1 hX1 hY1 hB2 (by omega) hAX hYB2 hxy hab hgE hg2 hsr2 Sg.refl hsr3
              exact ⟨rfl, _, q1, q2, Mge2⟩
           ·
            refine C rfl rfl (CQ rfl (CQ rfl (CQ rfl (C rfl rfl (F [(0, _), (1, _), (3, _), (4, _), (18, _), (20, _), (24, _), (199, _)] rfl ?_)))))
            refine BX rfl (BZ (BQ (AZ ?_)))
            obtain ⟨e2, he2⟩ : ∃ e_, e_ = ee := ⟨_, rfl⟩
            have Mge2 := Mgee
            rw [← he2] at Mge2
            have hg2 : Sg (cmL l) a ((a + b) / 2) ee e2 := by rw [he2]; exact Sg.refl
            have hsr2 : Srt (cmL l) a ((a + b) / 2) e2 := by
              rw [he2]
              first
              | (rw [show ((a + b) / 2) = i by omega]; exact srA)
              | (rw [show i = a by omega] at srY; exact srY)
            have srX2 := srX.keep (e := e2) (fun k q1 q2 => hg2.2.1 k (.inr q1))
            have srB2 := srB.keep (e := e2) (fun k q1 q2 => hg2.2.1 k (.inr (by omega)))
            have hel2 := hg2.1
            refine C rfl rfl (C rfl rfl ?_)
            refine WS.lssN (a := ((a + b) / 2)) (b := ((((a + b) / 2) + m) - i)) rfl rfl rfl (fun e208 => ?_) (fun e208 => ?_)
            ·
             refine C rfl rfl (C rfl rfl (C rfl rfl ?_))
             refine WS.lssN (a := ((((a + b) / 2) + m) - i)) (b := b) rfl rfl rfl (fun e212 => ?_) (fun e212 => ?_)
             ·
              refine C rfl rfl (F [(0, _), (3, _), (4, _), (18, _), (24, _), (213, _)] rfl ?_)
              refine CZ rfl (AZ (C rfl rfl (C rfl rfl (C rfl rfl (C rfl rfl (C rfl rfl ?_))))))
              refine WS.call rfl rfl rfl (ih (d := e2) (Mge2.focus 0 rfl) (by omega) (fun x hx => hdl x (hgE.2.2.1.mem_iff.1 (hg2.2.2.1.mem_iff.1 hx))) (by omega) (by omega) (by omega) (by omega) (by omega) srX2 srB2) ?_
              rintro _ h80 ⟨rfl, f2_, hgf2, hsf2, M81⟩
              replace M81 : Mem _ _ ([(p, _)] :: L) _ := M81
              refine F [] rfl ?_
              refine ⟨[], res_nil, ?_⟩
              obtain ⟨q1, q2⟩ := merge_fin w hEE hPa hA1 hX1 hY1 hB2 (by omega) hAX hYB2 hxy hab hgE hg2 hsr2 hgf2 hsf2
              exact ⟨rfl, _, q1, q2, M81⟩
             ·
              refine C rfl rfl (F [(0, _), (3, _), (4, _), (18, _), (24, _), (213, _)] rfl ?_)
              refine BX rfl (BZ (⟨[], res_nil, ?_⟩))
              have hsr3 : Srt (cmL l) ((a + b) / 2) b e2 := by
                first
                | (rw [show (a + b) / 2 + m - i = b by omega] at srX2; exact srX2)
                | (rw [show (a + b) / 2 + m - i = ((a + b) / 2) by omega] at srB2; exact srB2)
              obtain ⟨q1, q2⟩ := merge_fin w hEE hPa hA1 hX1 hY1 hB2 (by omega) hAX hYB2 hxy hab hgE hg2 hsr2 Sg.refl hsr3
              exact ⟨rfl, _, q1, q2, Mge2⟩
            ·
             refine C rfl rfl (CQ rfl (CQ rfl (CQ rfl (C rfl rfl (F [(0, _), (3, _), (4, _), (18, _), (24, _), (213, _)] rfl ?_)))))
             refine BX rfl (BZ (⟨[], res_nil, ?_⟩))
             have hsr3 : Srt (cmL l) ((a + b) / 2) b e2 := by
               first
               | (rw [show (a + b) / 2 + m - i = b by omega] at srX2; exact srX2)
               | (rw [show (a + b) / 2 + m - i = ((a + b) / 2) by omega] at srB2; exact srB2)
             obtain ⟨q1, q2⟩ := merge_fin w hEE hPa hA1 hX1 hY1 hB2 (by omega) hAX hYB2 hxy hab hgE hg2 hsr2 Sg.refl hsr3
             exact ⟨rfl, _, q1, q2, Mge2⟩
         ·
          refine C rfl rfl (CQ rfl (CQ rfl (CQ rfl (C rfl rfl (F [(0, _), (1, _), (2, _), (3, _), (4, _), (18, _), (20, _), (24, _), (185, _)] rfl ?_)))))
          refine BX rfl (BZ (BQ (BQ (AZ ?_))))
          obtain ⟨ee, hee⟩ : ∃ e_, e_ = d := ⟨_, rfl⟩
          have Mgee := M57
          rw [← hee] at Mgee
          have hEE : ee = (Pa_ ++ (A1_ ++ (Y_1 ++ (X_1 ++ (B2_ ++ Qb_))))) := by
            rw [hee, hcut]
            by_cases q : X_1.length = 0
            · rw [List.eq_nil_of_length_eq_zero q]; simp
            · rw [List.eq_nil_of_length_eq_zero (show Y_1.length = 0 by omega)]; simp
          obtain ⟨hgE, srA, srY, srX, srB⟩ := merge_mid hcut hEE hPa hA1 hX1 hY1 hB2 (by omega) hAX hYB2 hxy
          have hel := hgE.1
          refine C rfl rfl (C rfl rfl ?_)
          refine WS.lssN (a := a) (b := i) rfl rfl rfl (fun e194 => ?_) (fun e194 => ?_)
          ·
           refine C rfl rfl (C rfl rfl (C rfl rfl ?_))
           refine WS.lssN (a := i) (b := ((a + b) / 2)) rfl rfl rfl (fun e198 => ?_) (fun e198 => ?_)
           ·
            refine C rfl rfl (F [(0, _), (1, _), (3, _), (4, _), (18, _), (20, _), (24, _), (199, _)] rfl ?_)
            refine CZ rfl (AZ (C rfl rfl (C rfl rfl (C rfl rfl (C rfl rfl (C rfl rfl ?_))))))
            refine WS.call rfl rfl rfl (ih (d := ee) (Mgee.focus 0 rfl) (by omega) (fun x hx => hdl x (hgE.2.2.1.mem_iff.1 hx)) (by omega) (by omega) (by omega) (by omega) (by omega) srA srY) ?_
            rintro _ h82 ⟨rfl, f1_, hgf1, hsf1, M83⟩
            replace M83 : Mem _ _ ([(p, _)] :: L) _ := M83
            refine F [(0, _), (3, _), (4, _), (18, _), (24, _)] rfl ?_
            refine BQ (AZ ?_)
            obtain ⟨e2, he2⟩ : ∃ e_, e_ = f1_ := ⟨_, rfl⟩
            have Mge2 := M83
            rw [← he2] at Mge2
            have hg2 : Sg (cmL l) a ((a + b) / 2) ee e2 := by rw [he2]; exact hgf1
            have hsr2 : Srt (cmL l) a ((a + b) / 2) e2 := by rw [he2]; exact hsf1
            have srX2 := srX.keep (e := e2) (fun k q1 q2 => hg2.2.1 k (.inr q1))
            have srB2 := srB.keep (e := e2) (fun k q1 q2 => hg2.2.1 k (.inr (by omega)))
            have hel2 := hg2.1
            refine C rfl rfl (C rfl rfl ?_)
            refine WS.lssN (a := ((a + b) / 2)) (b := ((((a + b) / 2) + m) - i)) rfl rfl rfl (fun e208 => ?_) (fun e208 => ?_)
            ·
             refine C rfl rfl (C rfl rfl (C rfl rfl ?_))
             refine WS.lssN (a := ((((a + b) / 2) + m) - i)) (b := b) rfl rfl rfl (fun e212 => ?_) (fun e212 => ?_)
             ·
              refine C rfl rfl (F [(0, _), (3, _), (4, _), (18, _), (24, _), (213, _)] rfl ?_)
              refine CZ rfl (AZ (C rfl rfl (C rfl rfl (C rfl rfl (C rfl rfl (C rfl rfl ?_))))))
              refine WS.call rfl rfl rfl (ih (d := e2) (Mge2.focus 0 rfl) (by omega) (fun x hx => hdl x (hgE.2.2.1.mem_iff.1 (hg2.2.2.1.mem_iff.1 hx))) (by omega) (by omega) (by omega) (by omega) (by omega) srX2 srB2) ?_
              rintro _ h84 ⟨rfl, f2_, hgf2, hsf2, M85⟩
              replace M85 : Mem _ _ ([(p, _)] :: L) _ := M85
              refine F [] rfl ?_
              refine ⟨[], res_nil, ?_⟩
              obtain ⟨q1, q2⟩ := merge_fin w hEE hPa hA1 hX1 hY1 hB2 (by omega) hAX hYB2 hxy hab hgE hg2 hsr2 hgf2 hsf2
              exact ⟨rfl, _, q1, q2, M85⟩
             ·
              refine C rfl rfl (F [(0, _), (3, _), (4, _), (18, _), (24, _), (213, _)] rfl ?_)
              refine BX rfl (BZ (⟨[], res_nil, ?_⟩))
              have hsr3 : Srt (cmL l) ((a + b) / 2) b e2 := by
                first
                | (rw [show (a + b) / 2 + m - i = b by omega] at srX2; exact srX2)
                | (rw [show (a + b) / 2 + m - i = ((a + b) / 2) by omega] at srB2; exact srB2)
              obtain ⟨q1, q2⟩ := merge_fin w hEE hPa hA1 hX1 hY1 hB2 (by omega) hAX hYB2 hxy hab hgE hg2 hsr2 Sg.refl hsr3
              exact ⟨rfl, _, q1, q2, Mge2⟩
            ·
             refine C rfl rfl (CQ rfl (CQ rfl (CQ rfl (C rfl rfl (F [(0, _), (3, _), (4, _), (18, _), (24, _), (213, _)] rfl ?_)))))
             refine BX rfl (BZ (⟨[], res_nil, ?_⟩))
             have hsr3 : Srt (cmL l) ((a + b) / 2) b e2 := by
               first
               | (rw [show (a + b) / 2 + m - i = b by omega] at srX2; exact srX2)
               | (rw [show (a + b) / 2 + m - i = ((a + b) / 2) by omega] at srB2; exact srB2)
             obtain ⟨q1, q2⟩ := merge_fin w hEE hPa hA1 hX1 hY1 hB2 (by omega) hAX hYB2 hxy hab hgE hg2 hsr2 Sg.refl hsr3
             exact ⟨rfl, _, q1, q2, Mge2⟩
           ·
            refine C rfl rfl (F [(0, _), (1, _), (3, _), (4, _), (18, _), (20, _), (24, _), (199, _)] rfl ?_)
            refine BX rfl (BZ (BQ (AZ ?_)))
            obtain ⟨e2, he2⟩ : ∃ e_, e_ = ee := ⟨_, rfl⟩
            have Mge2 := Mgee
            rw [← he2] at Mge2
            have hg2 : Sg (cmL l) a ((a + b) / 2) ee e2 := by rw [he2]; exact Sg.refl
            have hsr2 : Srt (cmL l) a ((a + b) / 2) e2 := by
              rw [he2]
              first
              | (rw [show ((a + b) / 2) = i by omega]; exact srA)
              | (rw [show i = a by omega] at srY; exact srY)
            have srX2 := srX.keep (e := e2) (fun k q1 q2 => hg2.2.1 k (.inr q1))
            have srB2 := srB.keep (e := e2) (fun k q1 q2 => hg2.2.1 k (.inr (by omega)))
            have hel2 := hg2.1
            refine C rfl rfl (C rfl rfl ?_)
            refine WS.lssN (a := ((a + b) / 2)) (b := ((((a + b) / 2) + m) - i)) rfl rfl rfl (fun e208 => ?_) (fun e208 => ?_)
            ·
             refine C rfl rfl (C rfl rfl (C rfl rfl ?_))
             refine WS.lssN (a := ((((a + b) / 2) + m) - i)) (b := b) rfl rfl rfl (fun e212 => ?_) (fun e212 => ?_)
             ·
              refine C rfl rfl (F [(0, _), (3, _), (4, _), (18, _), (24, _), (213, _)] rfl ?_)
              refine CZ rfl (AZ (C rfl rfl (C rfl rfl (C rfl rfl (C rfl rfl (C rfl rfl ?_))))))
              refine WS.call rfl rfl rfl (ih (d := e2) (Mge2.focus 0 rfl) (by omega) (fun x hx => hdl x (hgE.2.2.1.mem_iff.1 (hg2.2.2.1.mem_iff.1 hx))) (by omega) (by omega) (by omega) (by omega) (by omega) srX2 srB2) ?_
              rintro _ h86 ⟨rfl, f2_, hgf2, hsf2, M87⟩
              replace M87 : Mem _ _ ([(p, _)] :: L) _ := M87
              refine F [] rfl ?_
              refine ⟨[], res_nil, ?_⟩
              obtain ⟨q1, q2⟩ := merge_fin w hEE hPa hA1 hX1 hY1 hB2 (by omega) hAX hYB2 hxy hab hgE hg2 hsr2 hgf2 hsf2
              exact ⟨rfl, _, q1, q2, M87⟩
             ·
              refine C rfl rfl (F [(0, _), (3, _), (4, _), (18, _), (24, _), (213, _)] rfl ?_)
              refine BX rfl (BZ (⟨[], res_nil, ?_⟩))
              have hsr3 : Srt (cmL l) ((a + b) / 2) b e2 := by
                first
                | (rw [show (a + b) / 2 + m - i = b by omega] at srX2; exact srX2)
                | (rw [show (a + b) / 2 + m - i = ((a + b) / 2) by omega] at srB2; exact srB2)
              obtain ⟨q1, q2⟩ := merge_fin w hEE hPa hA1 hX1 hY1 hB2 (by omega) hAX hYB2 hxy hab hgE hg2 hsr2 Sg.refl hsr3
              exact ⟨rfl, _, q1, q2, Mge2⟩
            ·
             refine C rfl rfl (CQ rfl (CQ rfl (CQ rfl (C rfl rfl (F [(0, _), (3, _), (4, _), (18, _), (24, _), (213, _)] rfl ?_)))))
             refine BX rfl (BZ (⟨[], res_nil, ?_⟩))
             have hsr3 : Srt (cmL l) ((a + b) / 2) b e2 := by
               first
               | (rw [show (a + b) / 2 + m - i = b by omega] at srX2; exact srX2)
               | (rw [show (a + b) / 2 + m - i = ((a + b) / 2) by omega] at srB2; exact srB2)
             obtain ⟨q1, q2⟩ := merge_fin w hEE hPa hA1 hX1 hY1 hB2 (by omega) hAX hYB2 hxy hab hgE hg2 hsr2 Sg.refl hsr3
             exact ⟨rfl, _, q1, q2, Mge2⟩
          ·
           refine C rfl rfl (CQ rfl (CQ rfl (CQ rfl (C rfl rfl (F [(0, _), (1, _), (3, _), (4, _), (18, _), (20, _), (24, _), (199, _)] rfl ?_)))))
           refine BX rfl (BZ (BQ (AZ ?_)))
           obtain ⟨e2, he2⟩ : ∃ e_, e_ = ee := ⟨_, rfl⟩
           have Mge2 := Mgee
           rw [← he2] at Mge2
           have hg2 : Sg (cmL l) a ((a + b) / 2) ee e2 := by rw [he2]; exact Sg.refl
           have hsr2 : Srt (cmL l) a ((a + b) / 2) e2 := by
             rw [he2]
             first
             | (rw [show ((a + b) / 2) = i by omega]; exact srA)
             | (rw [show i = a by omega] at srY; exact srY)
           have srX2 := srX.keep (e := e2) (fun k q1 q2 => hg2.2.1 k (.inr q1))
           have srB2 := srB.keep (e := e2) (fun k q1 q2 => hg2.2.1 k (.inr (by omega)))
           have hel2 := hg2.1
           refine C rfl rfl (C rfl rfl ?_)
           refine WS.lssN (a := ((a + b) / 2)) (b := ((((a + b) / 2) + m) - i)) rfl rfl rfl (fun e208 => ?_) (fun e208 => ?_)
           ·
            refine C rfl rfl (C rfl rfl (C rfl rfl ?_))
            refine WS.lssN (a := ((((a + b) / 2) + m) - i)) (b := b) rfl rfl rfl (fun e212 => ?_) (fun e212 => ?_)
            ·
             refine C rfl rfl (F [(0, _), (3, _), (4, _), (18, _), (24, _), (213, _)] rfl ?_)
             refine CZ rfl (AZ (C rfl rfl (C rfl rfl (C rfl rfl (C rfl rfl (C rfl rfl ?_))))))
             refine WS.call rfl rfl rfl (ih (d := e2) (Mge2.focus 0 rfl) (by omega) (fun x hx => hdl x (hgE.2.2.1.mem_iff.1 (hg2.2.2.1.mem_iff.1 hx))) (by omega) (by omega) (by omega) (by omega) (by omega) srX2 srB2) ?_
             rintro _ h88 ⟨rfl, f2_, hgf2, hsf2, M89⟩
             replace M89 : Mem _ _ ([(p, _)] :: L) _ := M89
             refine F [] rfl ?_
             refine ⟨[], res_nil, ?_⟩
             obtain ⟨q1, q2⟩ := merge_fin w hEE hPa hA1 hX1 hY1 hB2 (by omega) hAX hYB2 hxy hab hgE hg2 hsr2 hgf2 hsf2
             exact ⟨rfl, _, q1, q2, M89⟩
            ·
             refine C rfl rfl (F [(0, _), (3, _), (4, _), (18, _), (24, _), (213, _)] rfl ?_)
             refine BX rfl (BZ (⟨[], res_nil, ?_⟩))
             have hsr3 : Srt (cmL l) ((a + b) / 2) b e2 := by
               first
               | (rw [show (a + b) / 2 + m - i = b by omega] at srX2; exact srX2)
               | (rw [show (a + b) / 2 + m - i = ((a + b) / 2) by omega] at srB2; exact srB2)
             obtain ⟨q1, q2⟩ := merge_fin w hEE hPa hA1 hX1 hY1 hB2 (by omega) hAX hYB2 hxy hab hgE hg2 hsr2 Sg.refl hsr3
             exact ⟨rfl, _, q1, q2, Mge2⟩
           ·
            refine C rfl rfl (CQ rfl (CQ rfl (CQ rfl (C rfl rfl (F [(0, _), (3, _), (4, _), (18, _), (24, _), (213, _)] rfl ?_)))))
            refine BX rfl (BZ (⟨[], res_nil, ?_⟩))
            have hsr3 : Srt (cmL l) ((a + b) / 2) b e2 := by
              first
              | (rw [show (a + b) / 2 + m - i = b by omega] at srX2; exact srX2)
              | (rw [show (a + b) / 2 + m - i = ((a + b) / 2) by omega] at srB2; exact srB2)
            obtain ⟨q1, q2⟩ := merge_fin w hEE hPa hA1 hX1 hY1 hB2 (by omega) hAX hYB2 hxy hab hgE hg2 hsr2 Sg.refl hsr3
            exact ⟨rfl, _, q1, q2, Mge2⟩
end Go.Proofs.Ytfcpokolbifilaa.Wt
namespace Go.Proofs.Ytfcpokolbifilaa.Wt
open Go Go.Proofs.Ytfcpokolbifilaa.Am Go.Proofs.Ytfcpokolbifilaa.IrAll
open Go.Proofs.Ytfcpokolbifilaa.Am.WS renaming op → C
open Go.Proofs.Ytfcpokolbifilaa.Am.WC renaming seq → D
open Go.Proofs.Ytfcpokolbifilaa.Am.WS renaming nil → F
open Go.Proofs.Ytfcpokolbifilaa.Am.WC renaming run → G
set_option linter.unusedVariables false
set_option linter.unusedSimpArgs false
variable {h base : H} {L : List Seg} {R : List Nat}
set_option maxHeartbeats 2000000 in
set_option maxRecDepth 8000 in
theorem stable_ran {p pc c n0 : Nat} {V : Value} {l : List JOp} {d : List Nat} (M : Mem base h ([(p, ⟨KNi.flat d, 1, false⟩)] :: L) []) (A : KJOp.Sl base V l) (hp : base.get pc = some ⟨[V], 0, false⟩) (hdl : ∀ x ∈ d, x < l.length) (hn0 : d.length = n0) (hs : n0 ≤ 60) :
    Cll tab0 20 [.slice (some ⟨p, 0, none⟩) n0 c, .int .i64 (n0 : Int), .func (.func 18) #[] #[.pointer (some ⟨pc, 0, none⟩)]] h (fun v h2 => v = .tuple #[] ∧ ∃ e, Sg (cmL l) 0 n0 d e ∧ Srt (cmL l) 0 n0 e ∧ Mem base h2 ([(p, ⟨KNi.flat e, 1, false⟩)] :: L) []) := by
  have w := cmL_sw l
  have hG0 : Sg (cmL l) 0 n0 d d := Sg.refl
  refine Cll.code rfl rfl ?_
  refine WC.env [(0, _), (1, _), (2, _)] rfl ?_
  refine D (G (C rfl rfl (F [(0, _), (1, _), (2, _), (6, _)] rfl ?_)))
  refine D (G (C rfl rfl (C rfl rfl (C rfl rfl (F [(0, _), (1, _), (2, _), (6, _), (7, _), (8, _)] rfl ?_)))))
  refine D (WC.block (WC.unroll [(0, _), (1, _), (2, _), (6, _), (7, _), (8, _)] rfl ?_))
  refine D (D (G (C rfl rfl (C rfl rfl ?_))))
  refine WS.leqN (a := 20) (b := n0) rfl rfl rfl (fun e13 => ?_) (fun e13 => ?_)
  ·
   refine F [(0, _), (1, _), (2, _), (6, _), (7, _), (8, _), (13, _)] rfl ?_
   refine WC.condT rfl (WC.skip (WC.block (D (G (C rfl rfl (C rfl rfl (C rfl rfl (C rfl rfl ?_))))))))
   have hl_e_3 := hG0.1
   refine WS.call rfl rfl rfl (insertion_ran (a := 0) (b := 20) (d := d) (M.focus 0 rfl) A hp (fun x hx => hdl x (hG0.2.2.1.mem_iff.1 hx)) (by omega) (by omega) (by omega) (by omega)) ?_
   rintro _ h1 ⟨rfl, e_3, g_4, sr_5, M2⟩
   replace M2 : Mem _ _ ([(p, _)] :: L) _ := M2
   have G_6 : Sg (cmL l) 0 n0 d e_3 := hG0.trans (g_4.mono (by omega) (by omega))
   refine F [(0, _), (1, _), (2, _), (6, _), (8, _)] rfl ?_
   refine D (G (C rfl rfl (C rfl rfl (F [(0, _), (1, _), (2, _), (6, _), (7, _), (8, _)] rfl ?_))))
   refine G (C rfl rfl (C rfl rfl (WS.opV (.int .i64 40) rfl rfl rfl (C rfl rfl (F [(0, _), (1, _), (2, _), (6, _), (7, _), (8, _)] rfl ?_)))))
   refine WC.unroll [(0, _), (1, _), (2, _), (6, _), (7, _), (8, _)] rfl ?_
   refine D (D (G (C rfl rfl (C rfl rfl ?_))))
   refine WS.leqN (a := 40) (b := n0) rfl rfl rfl (fun e13 => ?_) (fun e13 => ?_)
   ·
    refine F [(0, _), (1, _), (2, _), (6, _), (7, _), (8, _), (13, _)] rfl ?_
    refine WC.condT rfl (WC.skip (WC.block (D (G (C rfl rfl (C rfl rfl (C rfl rfl (C rfl rfl ?_))))))))
    have hl_e_9 := G_6.1
    refine WS.call rfl rfl rfl (insertion_ran (a := 20) (b := 40) (d := e_3) (M2.focus 0 rfl) A hp (fun x hx => hdl x (G_6.2.2.1.mem_iff.1 hx)) (by omega) (by omega) (by omega) (by omega)) ?_
    rintro _ h7 ⟨rfl, e_9, g_10, sr_11, M8⟩
    replace M8 : Mem _ _ ([(p, _)] :: L) _ := M8
    have G_12 : Sg (cmL l) 0 n0 d e_9 := G_6.trans (g_10.mono (by omega) (by omega))
    have sr_13 := sr_5.keep (e := e_9) (fun k q1 q2 => g_10.2.1 k (by omega))
    refine F [(0, _), (1, _), (2, _), (6, _), (8, _)] rfl ?_
    refine D (G (C rfl rfl (C rfl rfl (F [(0, _), (1, _), (2, _), (6, _), (7, _), (8, _)] rfl ?_))))
    refine G (C rfl rfl (C rfl rfl (WS.opV (.int .i64 60) rfl rfl rfl (C rfl rfl (F [(0, _), (1, _), (2, _), (6, _), (7, _), (8, _)] rfl ?_)))))
    refine WC.unroll [(0, _), (1, _), (2, _), (6, _), (7, _), (8, _)] rfl ?_
    refine D (D (G (C rfl rfl (C rfl rfl ?_))))
    refine WS.leqN (a := 60) (b := n0) rfl rfl rfl (fun e13 => ?_) (fun e13 => ?_)
    ·
     refine F [(0, _), (1, _), (2, _), (6, _), (7, _), (8, _), (13, _)] rfl ?_
     refine WC.condT rfl (WC.skip (WC.block (D (G (C rfl rfl (C rfl rfl (C rfl rfl (C rfl rfl ?_))))))))
     have hl_e_16 := G_12.1
     refine WS.call rfl rfl rfl (insertion_ran (a := 40) (b := 60) (d := e_9) (M8.focus 0 rfl) A hp (fun x hx => hdl x (G_12.2.2.1.mem_iff.1 hx)) (by omega) (by omega) (by omega) (by omega)) ?_
     rintro _ h14 ⟨rfl, e_16, g_17, sr_18, M15⟩
     replace M15 : Mem _ _ ([(p, _)] :: L) _ := M15
     have G_19 : Sg (cmL l) 0 n0 d e_16 := G_12.trans (g_17.mono (by omega) (by omega))
     have sr_20 := sr_11.keep (e := e_16) (fun k q1 q2 => g_17.2.1 k (by omega))
     have sr_21 := sr_13.keep (e := e_16) (fun k q1 q2 => g_17.2.1 k (by omega))
     refine F [(0, _), (1, _), (2, _), (6, _), (8, _)] rfl ?_
     refine D (G (C rfl rfl (C rfl rfl (F [(0, _), (1, _), (2, _), (6, _), (7, _), (8, _)] rfl ?_))))
     refine G (C rfl rfl (C rfl rfl (WS.opV (.int .i64 80) rfl rfl rfl (C rfl rfl (F [(0, _), (1, _), (2, _), (6, _), (7, _), (8, _)] rfl ?_)))))
     refine WC.unroll [(0, _), (1, _), (2, _), (6, _), (7, _), (8, _)] rfl ?_
     refine D (D (G (C rfl rfl (C rfl rfl ?_))))
     refine WS.leqN (a := 80) (b := n0) rfl rfl rfl (fun e13 => ?_) (fun e13 => ?_)
     ·
      exact absurd e13 (by omega)
     ·
      refine F [(0, _), (1, _), (2, _), (6, _), (7, _), (8, _), (13, _)] rfl ?_
      refine WC.condF rfl (WC.exit ?_)
      refine D (G (C rfl rfl (C rfl rfl (C rfl rfl (C rfl rfl ?_)))))
      have hl_e_24 := G_19.1
      refine WS.call rfl rfl rfl (insertion_ran (a := 60) (b := n0) (d := e_16) (M15.focus 0 rfl) A hp (fun x hx => hdl x (G_19.2.2.1.mem_iff.1 hx)) (by omega) (by omega) (by omega) (by omega)) ?_
      rintro _ h22 ⟨rfl, e_24, g_25, sr_26, M23⟩
      replace M23 : Mem _ _ ([(p, _)] :: L) _ := M23
      have G_27 : Sg (cmL l) 0 n0 d e_24 := G_19.trans (g_25.mono (by omega) (by omega))
      have sr_28 := sr_18.keep (e := e_24) (fun k q1 q2 => g_25.2.1 k (by omega))
      have sr_29 := sr_20.keep (e := e_24) (fun k q1 q2 => g_25.2.1 k (by omega))
      have sr_30 := sr_21.keep (e := e_24) (fun k q1 q2 => g_25.2.1 k (by omega))
      refine F [(0, _), (1, _), (2, _), (6, _)] rfl ?_
      refine WC.block (WC.unroll [(0, _), (1, _), (2, _), (6, _)] rfl ?_)
      refine D (D (G (C rfl rfl (C rfl rfl ?_))))
      refine WS.lssN (a := 20) (b := n0) rfl rfl rfl (fun e30 => ?_) (fun e30 => ?_)
      ·
       refine F [(0, _), (1, _), (2, _), (6, _), (30, _)] rfl ?_
       refine WC.condT rfl (WC.skip (WC.block (D (G (C rfl rfl (WS.opV (.int .i64 40) rfl rfl rfl (C rfl rfl (C rfl rfl (F [(0, _), (1, _), (2, _), (6, _), (7, _), (8, _)] rfl ?_)))))))))
       refine D (WC.block (WC.unroll [(0, _), (1, _), (2, _), (6, _), (7, _), (8, _)] rfl ?_))
       refine D (D (G (C rfl rfl (C rfl rfl ?_))))
       refine WS.leqN (a := 40) (b := n0) rfl rfl rfl (fun e35 => ?_) (fun e35 => ?_)
       ·
        refine F [(0, _), (1, _), (2, _), (6, _), (7, _), (8, _), (35, _)] rfl ?_
        refine WC.condT rfl (WC.skip (WC.block (D (G (C rfl rfl (C rfl rfl (C rfl rfl (C rfl rfl (WS.opV (.int .i64 20) rfl rfl rfl (C rfl rfl (C rfl rfl ?_)))))))))))
        have hl_e_33 := G_27.1
        refine WS.call rfl rfl rfl (symMerge_ran A hp (40 - 0) (a := 0) (m := 20) (b := 40) (d := e_24) (M23.focus 0 rfl) (Nat.le_refl _) (fun x hx => hdl x (G_27.2.2.1.mem_iff.1 hx)) (by omega) (by omega) (by omega) (by omega) (by omega) sr_30 sr_29) ?_
        rintro _ h31 ⟨rfl, e_33, g_34, sr_35, M32⟩
        replace M32 : Mem _ _ ([(p, _)] :: L) _ := M32
        have G_36 : Sg (cmL l) 0 n0 d e_33 := G_27.trans (g_34.mono (by omega) (by omega))
        have sr_37 := sr_26.keep (e := e_33) (fun k q1 q2 => g_34.2.1 k (by omega))
        have sr_38 := sr_28.keep (e := e_33) (fun k q1 q2 => g_34.2.1 k (by omega))
        refine F [(0, _), (1, _), (2, _), (6, _), (8, _)] rfl ?_
        refine D (G (C rfl rfl (C rfl rfl (F [(0, _), (1, _), (2, _), (6, _), (7, _), (8, _)] rfl ?_))))
        refine G (C rfl rfl (C rfl rfl (WS.opV (.int .i64 40) rfl rfl rfl (WS.opV (.int .i64 80) rfl rfl rfl (C rfl rfl (F [(0, _), (1, _), (2, _), (6, _), (7, _), (8, _)] rfl ?_))))))
        refine WC.unroll [(0, _), (1, _), (2, _), (6, _), (7, _), (8, _)] rfl ?_
        refine D (D (G (C rfl rfl (C rfl rfl ?_))))
        refine WS.leqN (a := 80) (b := n0) rfl rfl rfl (fun e35 => ?_) (fun e35 => ?_)
        ·
         exact absurd e35 (by omega)
        ·
         refine F [(0, _), (1, _), (2, _), (6, _), (7, _), (8, _), (35, _)] rfl ?_
         refine WC.condF rfl (WC.exit ?_)
         refine D (D (G (C rfl rfl (C rfl rfl (WS.opV (.int .i64 60) rfl rfl rfl (C rfl rfl (F [(0, _), (1, _), (2, _), (6, _), (7, _), (9, _)] rfl ?_)))))))
         refine D (G (C rfl rfl (C rfl rfl ?_)))
         refine WS.lssN (a := 60) (b := n0) rfl rfl rfl (fun e54 => ?_) (fun e54 => ?_)
         ·
          exact absurd e54 (by omega)
         ·
          refine F [(0, _), (1, _), (2, _), (6, _), (7, _), (9, _), (54, _)] rfl ?_
          refine WC.condF rfl (WC.skip (G (C rfl rfl (WS.opV (.int .i64 40) rfl rfl rfl (C rfl rfl (F [(0, _), (1, _), (2, _), (6, _)] rfl ?_))))))
          refine WC.unroll [(0, _), (1, _), (2, _), (6, _)] rfl ?_
          refine D (D (G (C rfl rfl (C rfl rfl ?_))))
          refine WS.lssN (a := 40) (b := n0) rfl rfl rfl (fun e30 => ?_) (fun e30 => ?_)
          ·
           refine F [(0, _), (1, _), (2, _), (6, _), (30, _)] rfl ?_
           refine WC.condT rfl (WC.skip (WC.block (D (G (C rfl rfl (WS.opV (.int .i64 80) rfl rfl rfl (C rfl rfl (C rfl rfl (F [(0, _), (1, _), (2, _), (6, _), (7, _), (8, _)] rfl ?_)))))))))
           refine D (WC.block (WC.unroll [(0, _), (1, _), (2, _), (6, _), (7, _), (8, _)] rfl ?_))
           refine D (D (G (C rfl rfl (C rfl rfl ?_))))
           refine WS.leqN (a := 80) (b := n0) rfl rfl rfl (fun e35 => ?_) (fun e35 => ?_)
           ·
            exact absurd e35 (by omega)
           ·
            refine F [(0, _), (1, _), (2, _), (6, _), (7, _), (8, _), (35, _)] rfl ?_
            refine WC.condF rfl (WC.exit ?_)
            refine D (D (G (C rfl rfl (C rfl rfl (WS.opV (.int .i64 40) rfl rfl rfl (C rfl rfl (F [(0, _), (1, _), (2, _), (6, _), (7, _), (9, _)] rfl ?_)))))))
            refine D (G (C rfl rfl (C rfl rfl ?_)))
            refine WS.lssN (a := 40) (b := n0) rfl rfl rfl (fun e54 => ?_) (fun e54 => ?_)
            ·
             refine F [(0, _), (1, _), (2, _), (6, _), (7, _), (9, _), (54, _)] rfl ?_
             refine WC.condT rfl (G (C rfl rfl (C rfl rfl (C rfl rfl (C rfl rfl (C rfl rfl ?_))))))
             have hl_e_41 := G_36.1
             refine WS.call rfl rfl rfl (symMerge_ran A hp (n0 - 0) (a := 0) (m := 40) (b := n0) (d := e_33) (M32.focus 0 rfl) (Nat.le_refl _) (fun x hx => hdl x (G_36.2.2.1.mem_iff.1 hx)) (by omega) (by omega) (by omega) (by omega) (by omega) sr_35 (by rw [show n0 = 60 by omega]; exact sr_38)) ?_
             rintro _ h39 ⟨rfl, e_41, g_42, sr_43, M40⟩
             replace M40 : Mem _ _ ([(p, _)] :: L) _ := M40
             have G_44 : Sg (cmL l) 0 n0 d e_41 := G_36.trans (g_42.mono (by omega) (by omega))
             refine F [(0, _), (1, _), (2, _), (6, _)] rfl ?_
             refine G (C rfl rfl (WS.opV (.int .i64 80) rfl rfl rfl (C rfl rfl (F [(0, _), (1, _), (2, _), (6, _)] rfl ?_))))
             refine WC.unroll [(0, _), (1, _), (2, _), (6, _)] rfl ?_
             refine D (D (G (C rfl rfl (C rfl rfl ?_))))
             refine WS.lssN (a := 80) (b := n0) rfl rfl rfl (fun e30 => ?_) (fun e30 => ?_)
             ·
              exact absurd e30 (by omega)
             ·
              refine F [(0, _), (1, _), (2, _), (6, _), (30, _)] rfl ?_
              refine WC.condF rfl (WC.exit ?_)
              refine ⟨[], res_nil, ?_⟩
              exact ⟨rfl, _, G_44, sr_43, M40⟩
            ·
             exact absurd e54 (by omega)
          ·
           exact absurd e30 (by omega)
       ·
        exact absurd e35 (by omega)
      ·
       exact absurd e30 (by omega)
    ·
     refine F [(0, _), (1, _), (2, _), (6, _), (7, _), (8, _), (13, _)] rfl ?_
     refine WC.condF rfl (WC.exit ?_)
     refine D (G (C rfl rfl (C rfl rfl (C rfl rfl (C rfl rfl ?_)))))
     have hl_e_47 := G_12.1
     refine WS.call rfl rfl rfl (insertion_ran (a := 40) (b := n0) (d := e_9) (M8.focus 0 rfl) A hp (fun x hx => hdl x (G_12.2.2.1.mem_iff.1 hx)) (by omega) (by omega) (by omega) (by omega)) ?_
     rintro _ h45 ⟨rfl, e_47, g_48, sr_49, M46⟩
     replace M46 : Mem _ _ ([(p, _)] :: L) _ := M46
     have G_50 : Sg (cmL l) 0 n0 d e_47 := G_12.trans (g_48.mono (by omega) (by omega))
     have sr_51 := sr_11.keep (e := e_47) (fun k q1 q2 => g_48.2.1 k (by omega))
     have sr_52 := sr_13.keep (e := e_47) (fun k q1 q2 => g_48.2.1 k (by omega))
     refine F [(0, _), (1, _), (2, _), (6, _)] rfl ?_
     refine WC.block (WC.unroll [(0, _), (1, _), (2, _), (6, _)] rfl ?_)
     refine D (D (G (C rfl rfl (C rfl rfl ?_))))
     refine WS.lssN (a := 20) (b := n0) rfl rfl rfl (fun e30 => ?_) (fun e30 => ?_)
     ·
      refine F [(0, _), (1, _), (2, _), (6, _), (30, _)] rfl ?_
      refine WC.condT rfl (WC.skip (WC.block (D (G (C rfl rfl (WS.opV (.int .i64 40) rfl rfl rfl (C rfl rfl (C rfl rfl (F [(0, _), (1, _), (2, _), (6, _), (7, _), (8, _)] rfl ?_)))))))))
      refine D (WC.block (WC.unroll [(0, _), (1, _), (2, _), (6, _), (7, _), (8, _)] rfl ?_))
      refine D (D (G (C rfl rfl (C rfl rfl ?_))))
      refine WS.leqN (a := 40) (b := n0) rfl rfl rfl (fun e35 => ?_) (fun e35 => ?_)
      ·
       refine F [(0, _), (1, _), (2, _), (6, _), (7, _), (8, _), (35, _)] rfl ?_
       refine WC.condT rfl (WC.skip (WC.block (D (G (C rfl rfl (C rfl rfl (C rfl rfl (C rfl rfl (WS.opV (.int .i64 20) rfl rfl rfl (C rfl rfl (C rfl rfl ?_)))))))))))
       have hl_e_55 := G_50.1
       refine WS.call rfl rfl rfl (symMerge_ran A hp (40 - 0) (a := 0) (m := 20) (b := 40) (d := e_47) (M46.focus 0 rfl) (Nat.le_refl _) (fun x hx => hdl x (G_50.2.2.1.mem_iff.1 hx)) (by omega) (by omega) (by omega) (by omega) (by omega) sr_52 sr_51) ?_
       rintro _ h53 ⟨rfl, e_55, g_56, sr_57, M54⟩
       replace M54 : Mem _ _ ([(p, _)] :: L) _ := M54
       have G_58 : Sg (cmL l) 0 n0 d e_55 := G_50.trans (g_56.mono (by omega) (by omega))
       have sr_59 := sr_49.keep (e := e_55) (fun k q1 q2 => g_56.2.1 k (by omega))
       refine F [(0, _), (1, _), (2, _), (6, _), (8, _)] rfl ?_
       refine D (G (C rfl rfl (C rfl rfl (F [(0, _), (1, _), (2, _), (6, _), (7, _), (8, _)] rfl ?_))))
       refine G (C rfl rfl (C rfl rfl (WS.opV (.int .i64 40) rfl rfl rfl (WS.opV (.int .i64 80) rfl rfl rfl (C rfl rfl (F [(0, _), (1, _), (2, _), (6, _), (7, _), (8, _)] rfl ?_))))))
       refine WC.unroll [(0, _), (1, _), (2, _), (6, _), (7, _), (8, _)] rfl ?_
       refine D (D (G (C rfl rfl (C rfl rfl ?_))))
       refine WS.leqN (a := 80) (b := n0) rfl rfl rfl (fun e35 => ?_) (fun e35 => ?_)
       ·
        exact absurd e35 (by omega)
       ·
        refine F [(0, _), (1, _), (2, _), (6, _), (7, _), (8, _), (35, _)] rfl ?_
        refine WC.condF rfl (WC.exit ?_)
        refine D (D (G (C rfl rfl (C rfl rfl (WS.opV (.int .i64 60) rfl rfl rfl (C rfl rfl (F [(0, _), (1, _), (2, _), (6, _), (7, _), (9, _)] rfl ?_)))))))
        refine D (G (C rfl rfl (C rfl rfl ?_)))
        refine WS.lssN (a := 60) (b := n0) rfl rfl rfl (fun e54 => ?_) (fun e54 => ?_)
        ·
         exact absurd e54 (by omega)
        ·
         refine F [(0, _), (1, _), (2, _), (6, _), (7, _), (9, _), (54, _)] rfl ?_
         refine WC.condF rfl (WC.skip (G (C rfl rfl (WS.opV (.int .i64 40) rfl rfl rfl (C rfl rfl (F [(0, _), (1, _), (2, _), (6, _)] rfl ?_))))))
         refine WC.unroll [(0, _), (1, _), (2, _), (6, _)] rfl ?_
         refine D (D (G (C rfl rfl (C rfl rfl ?_))))
         refine WS.lssN (a := 40) (b := n0) rfl rfl rfl (fun e30 => ?_) (fun e30 => ?_)
         ·
          refine F [(0, _), (1, _), (2, _), (6, _), (30, _)] rfl ?_
          refine WC.condT rfl (WC.skip (WC.block (D (G (C rfl rfl (WS.opV (.int .i64 80) rfl rfl rfl (C rfl rfl (C rfl rfl (F [(0, _), (1, _), (2, _), (6, _), (7, _), (8, _)] rfl ?_)))))))))
          refine D (WC.block (WC.unroll [(0, _), (1, _), (2, _), (6, _), (7, _), (8, _)] rfl ?_))
          refine D (D (G (C rfl rfl (C rfl rfl ?_))))
          refine WS.leqN (a := 80) (b := n0) rfl rfl rfl (fun e35 => ?_) (fun e35 => ?_)
          ·
           exact absurd e35 (by omega)
          ·
           refine F [(0, _), (1, _), (2, _), (6, _), (7, _), (8, _), (35, _)] rfl ?_
           refine WC.condF rfl (WC.exit ?_)
           refine D (D (G (C rfl rfl (C rfl rfl (WS.opV (.int .i64 40) rfl rfl rfl (C rfl rfl (F [(0, _), (1, _), (2, _), (6, _), (7, _), (9, _)] rfl ?_)))))))
           refine D (G (C rfl rfl (C rfl rfl ?_)))
           refine WS.lssN (a := 40) (b := n0) rfl rfl rfl (fun e54 => ?_) (fun e54 => ?_)
           ·
            refine F [(0, _), (1, _), (2, _), (6, _), (7, _), (9, _), (54, _)] rfl ?_
            refine WC.condT rfl (G (C rfl rfl (C rfl rfl (C rfl rfl (C rfl rfl (C rfl rfl ?_))))))
            have hl_e_62 := G_58.1
            refine WS.call rfl rfl rfl (symMerge_ran A hp (n0 - 0) (a := 0) (m := 40) (b := n0) (d := e_55) (M54.focus 0 rfl) (Nat.le_refl _) (fun x hx => hdl x (G_58.2.2.1.mem_iff.1 hx)) (by omega) (by omega) (by omega) (by omega) (by omega) sr_57 sr_59) ?_
            rintro _ h60 ⟨rfl, e_62, g_63, sr_64, M61⟩
            replace M61 : Mem _ _ ([(p, _)] :: L) _ := M61
            have G_65 : Sg (cmL l) 0 n0 d e_62 := G_58.trans (g_63.mono (by omega) (by omega))
            refine F [(0, _), (1, _), (2, _), (6, _)] rfl ?_
            refine G (C rfl rfl (WS.opV (.int .i64 80) rfl rfl rfl (C rfl rfl (F [(0, _), (1, _), (2, _), (6, _)] rfl ?_))))
            refine WC.unroll [(0, _), (1, _), (2, _), (6, _)] rfl ?_
            refine D (D (G (C rfl rfl (C rfl rfl ?_))))
            refine WS.lssN (a := 80) (b := n0) rfl rfl rfl (fun e30 => ?_) (fun e30 => ?_)
            ·
             exact absurd e30 (by omega)
            ·
             refine F [(0, _), (1, _), (2, _), (6, _), (30, _)] rfl ?_
             refine WC.condF rfl (WC.exit ?_)
             refine ⟨[], res_nil, ?_⟩
             exact ⟨rfl, _, G_65, sr_64, M61⟩
           ·
            exact absurd e54 (by omega)
         ·
          refine F [(0, _), (1, _), (2, _), (6, _), (30, _)] rfl ?_
          refine WC.condF rfl (WC.exit ?_)
          refine ⟨[], res_nil, ?_⟩
          exact ⟨rfl, _, G_58, (by rw [show n0 = 40 by omega]; exact sr_57), M54⟩
      ·
       exact absurd e35 (by omega)
     ·
      exact absurd e30 (by omega)
   ·
    refine F [(0, _), (1, _), (2, _), (6, _), (7, _), (8, _), (13, _)] rfl ?_
    refine WC.condF rfl (WC.exit ?_)
    refine D (G (C rfl rfl (C rfl rfl (C rfl rfl (C rfl rfl ?_)))))
    have hl_e_68 := G_6.1
    refine WS.call rfl rfl rfl (insertion_ran (a := 20) (b := n0) (d := e_3) (M2.focus 0 rfl) A hp (fun x hx => hdl x (G_6.2.2.1.mem_iff.1 hx)) (by omega) (by omega) (by omega) (by omega)) ?_
    rintro _ h66 ⟨rfl, e_68, g_69, sr_70, M67⟩
    replace M67 : Mem _ _ ([(p, _)] :: L) _ := M67
    have G_71 : Sg (cmL l) 0 n0 d e_68 := G_6.trans (g_69.mono (by omega) (by omega))
    have sr_72 := sr_5.keep (e := e_68) (fun k q1 q2 => g_69.2.1 k (by omega))
    refine F [(0, _), (1, _), (2, _), (6, _)] rfl ?_
    refine WC.block (WC.unroll [(0, _), (1, _), (2, _), (6, _)] rfl ?_)
    refine D (D (G (C rfl rfl (C rfl rfl ?_))))
    refine WS.lssN (a := 20) (b := n0) rfl rfl rfl (fun e30 => ?_) (fun e30 => ?_)
    ·
     refine F [(0, _), (1, _), (2, _), (6, _), (30, _)] rfl ?_
     refine WC.condT rfl (WC.skip (WC.block (D (G (C rfl rfl (WS.opV (.int .i64 40) rfl rfl rfl (C rfl rfl (C rfl rfl (F [(0, _), (1, _), (2, _), (6, _), (7, _), (8, _)] rfl ?_)))))))))
     refine D (WC.block (WC.unroll [(0, _), (1, _), (2, _), (6, _), (7, _), (8, _)] rfl ?_))
     refine D (D (G (C rfl rfl (C rfl rfl ?_))))
     refine WS.leqN (a := 40) (b := n0) rfl rfl rfl (fun e35 => ?_) (fun e35 => ?_)
     ·
      exact absurd e35 (by omega)
     ·
      refine F [(0, _), (1, _), (2, _), (6, _), (7, _), (8, _), (35, _)] rfl ?_
      refine WC.condF rfl (WC.exit ?_)
      refine D (D (G (C rfl rfl (C rfl rfl (WS.opV (.int .i64 20) rfl rfl rfl (C rfl rfl (F [(0, _), (1, _), (2, _), (6, _), (7, _), (9, _)] rfl ?_)))))))
      refine D (G (C rfl rfl (C rfl rfl ?_)))
      refine WS.lssN (a := 20) (b := n0) rfl rfl rfl (fun e54 => ?_) (fun e54 => ?_)
      ·
       refine F [(0, _), (1, _), (2, _), (6, _), (7, _), (9, _), (54, _)] rfl ?_
       refine WC.condT rfl (G (C rfl rfl (C rfl rfl (C rfl rfl (C rfl rfl (C rfl rfl ?_))))))
       have hl_e_75 := G_71.1
       refine WS.call rfl rfl rfl (symMerge_ran A hp (n0 - 0) (a := 0) (m := 20) (b := n0) (d := e_68) (M67.focus 0 rfl) (Nat.le_refl _) (fun x hx => hdl x (G_71.2.2.1.mem_iff.1 hx)) (by omega) (by omega) (by omega) (by omega) (by omega) sr_72 sr_70) ?_
       rintro _ h73 ⟨rfl, e_75, g_76, sr_77, M74⟩
       replace M74 : Mem _ _ ([(p, _)] :: L) _ := M74
       have G_78 : Sg (cmL l) 0 n0 d e_75 := G_71.trans (g_76.mono (by omega) (by omega))
       refine F [(0, _), (1, _), (2, _), (6, _)] rfl ?_
       refine G (C rfl rfl (WS.opV (.int .i64 40) rfl rfl rfl (C rfl rfl (F [(0, _), (1, _), (2, _), (6, _)] rfl ?_))))
       refine WC.unroll [(0, _), (1, _), (2, _), (6, _)] rfl ?_
       refine D (D (G (C rfl rfl (C rfl rfl ?_))))
       refine WS.lssN (a := 40) (b := n0) rfl rfl rfl (fun e30 => ?_) (fun e30 => ?_)
       ·
        exact absurd e30 (by omega)
       ·
        refine F [(0, _), (1, _), (2, _), (6, _), (30, _)] rfl ?_
        refine WC.condF rfl (WC.exit ?_)
        refine ⟨[], res_nil, ?_⟩
        exact ⟨rfl, _, G_78, sr_77, M74⟩
      ·
       exact absurd e54 (by omega)
    ·
     refine F [(0, _), (1, _), (2, _), (6, _), (30, _)] rfl ?_
     refine WC.condF rfl (WC.exit ?_)
     refine ⟨[], res_nil, ?_⟩
     exact ⟨rfl, _, G_71, (by rw [show n0 = 20 by omega]; exact sr_72), M67⟩
  ·
   refine F [(0, _), (1, _), (2, _), (6, _), (7, _), (8, _), (13, _)] rfl ?_
   refine WC.condF rfl (WC.exit ?_)
   refine D (G (C rfl rfl (C rfl rfl (C rfl rfl (C rfl rfl ?_)))))
   have hl_e_81 := hG0.1
   refine WS.call rfl rfl rfl (insertion_ran (a := 0) (b := n0) (d := d) (M.focus 0 rfl) A hp (fun x hx => hdl x (hG0.2.2.1.mem_iff.1 hx)) (by omega) (by omega) (by omega) (by omega)) ?_
   rintro _ h79 ⟨rfl, e_81, g_82, sr_83, M80⟩
   replace M80 : Mem _ _ ([(p, _)] :: L) _ := M80
   have G_84 : Sg (cmL l) 0 n0 d e_81 := hG0.trans (g_82.mono (by omega) (by omega))
   refine F [(0, _), (1, _), (2, _), (6, _)] rfl ?_
   refine WC.block (WC.unroll [(0, _), (1, _), (2, _), (6, _)] rfl ?_)
   refine D (D (G (C rfl rfl (C rfl rfl ?_))))
   refine WS.lssN (a := 20) (b := n0) rfl rfl rfl (fun e30 => ?_) (fun e30 => ?_)
   ·
    exact absurd e30 (by omega)
   ·
    refine F [(0, _), (1, _), (2, _), (6, _), (30, _)] rfl ?_
    refine WC.condF rfl (WC.exit ?_)
    refine ⟨[], res_nil, ?_⟩
    exact ⟨rfl, _, G_84, sr_83, M80⟩
end Go.Proofs.Ytfcpokolbifilaa.Wt
namespace Go.Proofs.Ytfcpokolbifilaa.Wt
open Go Go.Proofs.Ytfcpokolbifilaa.Am Go.Proofs.Ytfcpokolbifilaa.IrAll
open Go.Proofs.Ytfcpokolbifilaa.Am.WS renaming op → C
set_option linter.unusedVariables false
set_option linter.unusedSimpArgs false
variable {h base : H} {L : List Seg} {R : List Nat}
theorem insertion0_ran {pc : Nat} (W : Mem h h [] []) : Cll tab0 25 [.slice none 0 0, .int .i64 0, .int .i64 0, .func (.func 18) #[] #[.pointer (some ⟨pc, 0, none⟩)]] h (fun v h2 => v = .tuple #[] ∧ Mem h h2 [] []) := by
  refine Cll.code rfl rfl ?_
  refine WC.env [(0, _), (1, _), (2, _), (3, _)] rfl ?_
  refine WC.seq (WC.run (C rfl rfl (WS.opV (.int .i64 1) rfl rfl rfl (C rfl rfl (WS.nil [(0, _), (1, _), (2, _), (3, _), (8, _)] rfl ?_)))))
  refine WC.block (WC.unroll [(0, _), (1, _), (2, _), (3, _), (8, _)] rfl ?_)
  refine WC.seq (WC.seq (WC.run (C rfl rfl (C rfl rfl (WS.opV (.bool false) rfl rfl rfl (WS.nil [(0, _), (1, _), (2, _), (3, _), (8, _), (14, _)] rfl ?_))))))
  refine WC.condF rfl (WC.exit ?_)
  refine ⟨[], res_nil, ?_⟩
  exact ⟨rfl, W.bare.take 0⟩
theorem stable0_ran {pc : Nat} (W : Mem h h [] []) : Cll tab0 20 [.slice none 0 0, .int .i64 0, .func (.func 18) #[] #[.pointer (some ⟨pc, 0, none⟩)]] h (fun v h2 => v = .tuple #[] ∧ Mem h h2 [] []) := by
  refine Cll.code rfl rfl ?_
  refine WC.env [(0, _), (1, _), (2, _)] rfl ?_
  refine WC.seq (WC.run (C rfl rfl (WS.nil [(0, _), (1, _), (2, _), (6, _)] rfl ?_)))
  refine WC.seq (WC.run (C rfl rfl (C rfl rfl (C rfl rfl (WS.nil [(0, _), (1, _), (2, _), (6, _), (7, _), (8, _)] rfl ?_)))))
  refine WC.seq (WC.block (WC.unroll [(0, _), (1, _), (2, _), (6, _), (7, _), (8, _)] rfl ?_))
  refine WC.seq (WC.seq (WC.run (C rfl rfl (C rfl rfl (WS.opV (.bool false) rfl rfl rfl (WS.nil [(0, _), (1, _), (2, _), (6, _), (7, _), (8, _), (13, _)] rfl ?_))))))
  refine WC.condF rfl (WC.exit ?_)
  refine WC.seq (WC.run (C rfl rfl (C rfl rfl (C rfl rfl (C rfl rfl ?_)))))
  refine WS.call rfl rfl rfl (insertion0_ran W.here ) ?_
  rintro _ h1 ⟨rfl, N2⟩
  have M3 := W.trans N2
  refine WS.nil [(0, _), (1, _), (2, _), (6, _)] rfl ?_
  refine WC.block (WC.unroll [(0, _), (1, _), (2, _), (6, _)] rfl ?_)
  refine WC.seq (WC.seq (WC.run (C rfl rfl (C rfl rfl (WS.opV (.bool false) rfl rfl rfl (WS.nil [(0, _), (1, _), (2, _), (6, _), (30, _)] rfl ?_))))))
  refine WC.condF rfl (WC.exit ?_)
  refine ⟨[], res_nil, ?_⟩
  exact ⟨rfl, M3.bare.take 0⟩
theorem sort0_ran {pc : Nat} (W : Mem h h [] []) : Cll tab0 17 [.slice none 0 0, .func (.func 18) #[] #[.pointer (some ⟨pc, 0, none⟩)]] h (fun v h2 => v = .tuple #[] ∧ Mem h h2 [] []) := by
  refine Cll.code rfl rfl ?_
  refine WC.env [(0, _), (1, _)] rfl ?_
  refine WC.run (C rfl rfl (C rfl rfl (C rfl rfl (C rfl rfl ?_))))
  refine WS.call rfl rfl rfl (stable0_ran W.here ) ?_
  rintro _ h1 ⟨rfl, N2⟩
  have M3 := W.trans N2
  refine WS.nil [] rfl ?_
  refine ⟨[], res_nil, ?_⟩
  exact ⟨rfl, M3.bare.take 0⟩
theorem sort_ran {p pc c : Nat} {V : Value} {l : List JOp} {d : List Nat} (M : Mem base h ([(p, ⟨KNi.flat d, 1, false⟩)] :: L) []) (A : KJOp.Sl base V l) (hp : base.get pc = some ⟨[V], 0, false⟩) (hdl : ∀ x ∈ d, x < l.length) (hs : d.length ≤ 60) :
    Cll tab0 17 [.slice (some ⟨p, 0, none⟩) d.length c, .func (.func 18) #[] #[.pointer (some ⟨pc, 0, none⟩)]] h (fun v h2 => v = .tuple #[] ∧ ∃ e, Sg (cmL l) 0 d.length d e ∧ Srt (cmL l) 0 d.length e ∧ Mem base h2 ([(p, ⟨KNi.flat e, 1, false⟩)] :: L) []) := by
  refine Cll.code rfl rfl ?_
  refine WC.env [(0, _), (1, _)] rfl ?_
  refine WC.run (C rfl rfl (C rfl rfl (C rfl rfl (C rfl rfl ?_))))
  refine WS.call rfl rfl rfl (stable_ran (d := d) (n0 := d.length) (M.focus 0 rfl) A hp hdl rfl hs) ?_
  rintro _ h1 ⟨rfl, e, hg, hsr, M2⟩
  replace M2 : Mem _ _ ([(p, _)] :: L) _ := M2
  refine WS.nil [] rfl ?_
  refine ⟨[], res_nil, ?_⟩
  exact ⟨rfl, e, hg, hsr, M2⟩
theorem own_cases {V : Value} {d : List Nat} {S : Seg} (O : KNi.Own V d S) : (V = .slice none 0 0 ∧ d = [] ∧ S = []) ∨ (∃ p, V = .slice (some ⟨p, 0, none⟩) d.length (2 * d.length) ∧ S = [(p, ⟨KNi.flat d, 1, false⟩)] ∧ d ≠ []) := by
  cases O with
  | nil => exact .inl ⟨rfl, rfl, rfl⟩
  | row p l hne => exact .inr ⟨p, rfl, rfl, hne⟩
theorem alike_range {cm : Nat → Nat → Prop} (n : Nat) : Alike cm (List.range n) := by
  unfold Alike
  exact List.pairwise_lt_range.imp fun h _ _ => h
theorem Order_ran (W : Mem h h [] []) {V : Value} {l : List JOp} (A : KJOp.Sl h V l) (hl : l.length ≤ 60) : Cll tab0 9 [V] h (fun v h2 => ∃ e S, KNi.Own v e S ∧ e.Perm (List.range l.length) ∧ Srt (cmL l) 0 l.length e ∧ Alike (cmL l) e ∧ Mem h h2 [S] []) := by
  obtain ⟨Pl, nl, rfl⟩ := A.shape
  refine Cll.code rfl rfl ?_
  refine WC.env [(0, _)] rfl ?_
  refine WC.seq (WC.run (WS.box W [_] rfl rfl rfl rfl ?_))
  intro p1 h2 M3
  refine C rfl rfl (WS.nil [(1, _)] rfl ?_)
  refine WC.seq (WC.run ?_)
  have hB1 := M3.at 0 rfl
  have A2 := A.mono M3.sub
  have Mr := M3.here
  refine C rfl rfl (WS.nil [(1, _), (3, _)] rfl ?_)
  refine WC.seq (WC.seq (WC.run (C rfl (op_ld (Mr.sub _ _ hB1) rfl rfl) (C rfl (op_lenVS A2 rfl) (C rfl rfl (WS.nil [(1, _), (3, _), (6, _), (7, _)] rfl ?_))))))
  refine WC.block ?_
  obtain ⟨L4, eL6, M5⟩ := Mem.name1 ((Mr.bare).nils)
  refine WC.loop (σ := Value × Seg × Nat) (fun ((V_, S_, i)) => [(1, (.pointer (some ⟨p1, 0, none⟩))), (3, V_), (6, (.int .i64 (((l).length : Nat) : Int))), (7, (.int .i64 ((i : Nat) : Int)))]) (fun ((V_, S_, i)) hh => Mem h2 hh (S_ :: L4) [] ∧ KNi.Own V_ (List.range i) S_ ∧ i ≤ l.length) (fun ((V_, S_, i)) => l.length - i) (_, _, 0) rfl ⟨M5, ?_⟩ ?_
  · exact ⟨.nil, by omega⟩
  ·rintro ⟨V_, S_, i⟩ h7 ⟨M8, ⟨hO, hi⟩⟩
   replace eL6 := eL6.symm; subst eL6
   refine WC.env [(1, _), (3, _), (6, _), (7, _)] rfl ?_
   refine WC.seq (WC.run (WS.lssN (a := i) (b := (l).length) rfl rfl rfl (fun e8 => ?_) (fun e8 => ?_)))
   ·
    refine WS.nil [(1, _), (3, _), (6, _), (7, _), (8, _)] rfl ?_
    refine WC.seq (WC.condT rfl (WC.skip (WC.seq (WC.block (WC.seq (WC.run (C rfl rfl (C rfl rfl (WS.nil [(1, _), (3, _), (4, _), (6, _), (7, _)] rfl ?_)))))))))
    refine WC.run (C rfl rfl (C rfl rfl ?_))
    refine WS.bsl M8 [_] rfl rfl rfl rfl ?_
    intro p9 h10 M11
    refine WS.app (l := (List.range i)) (m := [i]) (hO) (M11.focus 1 rfl) (Row.Src.one (K := KNi) (m := [i]) (M11.at 0 rfl)) rfl (by simp only [List.length_range, List.length_cons, List.length_nil]; omega) (by simp only [List.length_range, List.length_cons, List.length_nil]; omega) rfl rfl rfl ?_
    intro V12 S13 h14 O15 M16
    obtain ⟨P17, rfl⟩ := Row.Own.shape O15
    refine C rfl rfl (WS.nil [(1, _), (3, _), (6, _), (7, _)] rfl ?_)
    refine WC.run (WS.opV (.int .i64 (((i + 1) : Nat) : Int)) rfl rfl (add_i64 (a := i) (b := 1) (by omega)) (C rfl rfl (WS.nil [(1, _), (3, _), (6, _), (7, _)] rfl ?_)))
    refine ⟨((.slice P17 (((List.range i) ++ [i])).length (2 * (((List.range i) ++ [i])).length)), S13, i + 1), rfl, ⟨((M16.bare.focus 0 rfl).take 1), ?_⟩, ?_⟩
    · exact ⟨by rw [List.range_succ]; exact O15, by omega⟩
    · simp only []; omega
   ·
    refine WS.nil [(1, _), (3, _), (6, _), (7, _), (8, _)] rfl ?_
    refine WC.seq (WC.condF rfl (WC.exit ?_))
    refine WC.seq (WC.run ?_)
    have hil : i = l.length := by omega
    refine C rfl rfl (C rfl rfl ?_)
    rcases own_cases hO with ⟨rfl, hd0, rfl⟩ | ⟨pq, rfl, rfl, hdne⟩
    ·
     refine WS.call rfl rfl rfl (sort0_ran M8.here) ?_
     rintro _ h18 ⟨rfl, N19⟩
     have M20 := (M8.focus 0 rfl).drop.trans N19
     replace M20 : Mem _ _ ([]) _ := M20
     refine WS.nil [(3, _)] rfl ?_
     refine WC.seq (WC.run (C rfl rfl (C rfl rfl (WS.nil [(2, _)] rfl ?_))))
     refine WC.ret (⟨[_], (res_tmp rfl res_nil), ?_⟩)
     have hl0 : l.length = 0 := by have := congrArg List.length hd0; simp at this; omega
     exact ⟨[], [], .nil, by rw [hl0]; exact List.Perm.refl _, Srt.small (by omega), List.Pairwise.nil, ((M3.trans ((M20.bare.take 0))).focus 0 rfl).take 0 |>.nils⟩
    ·
     refine WS.call rfl rfl rfl (sort_ran (d := (List.range i)) (M8.focus 0 rfl) A2 hB1 (fun x hx => by rw [← hil]; exact List.mem_range.1 hx) (by rw [List.length_range]; omega)) ?_
     rintro _ h18 ⟨rfl, e, hg, hsr, M20⟩
     replace M20 : Mem _ _ ([(pq, _)] :: []) _ := M20
     refine WS.nil [(3, _)] rfl ?_
     refine WC.seq (WC.run (C rfl rfl (C rfl rfl (WS.nil [(2, _)] rfl ?_))))
     refine WC.ret (⟨[_], (res_tmp rfl res_nil), ?_⟩)
     have hlr : (List.range i).length = l.length := by rw [List.length_range]; omega
     rw [hlr] at hsr
     have hO2 := Row.Own.row (K := KNi) pq e (by intro q; rw [q] at hg; have := hg.1; simp at this; exact hdne (by rw [← this]; rfl))
     rw [hg.1] at hO2
     exact ⟨e, _, hO2, by rw [← hil]; exact hg.2.2.1, hsr, hg.2.2.2 (alike_range i), (M3.trans ((M20.bare.focus 0 rfl).take 1)).take 1⟩
end Go.Proofs.Ytfcpokolbifilaa.Wt
namespace Go.Proofs.Ytfcpokolbifilaa.Wt
open Go Go.Proofs.Ytfcpokolbifilaa.Am Go.Proofs.Ytfcpokolbifilaa.IrAll
set_option linter.unusedVariables false
set_option linter.unusedSimpArgs false
variable {h base : H} {L : List Seg} {R : List Nat}
theorem Ahead_ran (W : Mem h h [] []) {a b : JOp} : Cll tab0 13 [.agg (JOp.cells a).toArray, .agg (JOp.cells b).toArray] h (fun v h2 => v = .bool (decide (kLt a b)) ∧ Mem h h2 [] []) := by
  refine Cll.code rfl rfl ?_
  refine WC.env [(0, _), (1, _)] rfl ?_
  refine WC.seq (WC.run (WS.box W [_, _, _, _] rfl rfl rfl rfl ?_))
  intro p1 h2 M3
  refine WS.box M3 [_, _, _, _] rfl rfl rfl rfl ?_
  intro p4 h5 M6
  refine WS.op rfl rfl (WS.nil [(2, _), (3, _)] rfl ?_)
  refine WC.seq (WC.run (WS.op rfl (op_lds [_, _, _, _] (M6.at 1 rfl) rfl (Nat.le_of_ble_eq_true rfl) rfl) (WS.op rfl (op_lds [_, _, _, _] (M6.at 0 rfl) rfl (Nat.le_of_ble_eq_true rfl) rfl) ?_)))
  refine WS.call rfl rfl rfl (compare_ran M6.here (a := a) (b := b)) ?_
  rintro _ h7 ⟨rfl, N8⟩
  have M9 := M6.trans N8
  refine WS.lss (a := (cmpZ a b)) (b := (0 : Int)) rfl rfl rfl (fun e8 => ?_) (fun e8 => ?_)
  ·
   refine WS.op rfl rfl (WS.nil [(4, _)] rfl ?_)
   refine WC.ret (⟨[_], (res_tmp rfl res_nil), ?_⟩)
   exact ⟨by rw [decide_eq_true (cmpZ_lt.1 (by assumption))]; rfl, M9.bare.take 0⟩
  ·
   refine WS.op rfl rfl (WS.nil [(4, _)] rfl ?_)
   refine WC.ret (⟨[_], (res_tmp rfl res_nil), ?_⟩)
   exact ⟨by rw [decide_eq_false (fun q => by have := cmpZ_lt.2 q; omega)]; rfl, M9.bare.take 0⟩
end Go.Proofs.Ytfcpokolbifilaa.Wt
