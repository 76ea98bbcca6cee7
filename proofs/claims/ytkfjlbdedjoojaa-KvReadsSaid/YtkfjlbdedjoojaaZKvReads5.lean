/- The law 'KvReads' returns true for all arguments: what its proof stands on, part 5. -/
import Derived.Test.YtkfjlbdedjoojaaZKvReads4
import Derived.Test.YtkfjlbdedjoojaaProg
namespace Go.Proofs.Ytkfjlbdedjoojaa.IrAll
open Go Go.Proofs.Ytkfjlbdedjoojaa.Am
open Go.Operand renaming tmp → t, const → c
open Go.Value renaming int → i, string → g, bool → b
open Go.IntKind renaming i64 → I, u64 → U, u8 → B
open Option renaming some → S, none → N
open Go.Proofs.Ytkfjlbdedjoojaa.Am.Step renaming op → o, call → y
open Go.Proofs.Ytkfjlbdedjoojaa.Am.IOp renaming mov → m
open Go.Proofs.Ytkfjlbdedjoojaa.Am.IC renaming seq → q, cond → k, run → r, skip → s
def hi5 : List Hint := [.keep [0], .keep [0, 9], .keep [0], .keep [0, 3, 4], .keep [0, 3, 4, 5, 6], .keep [0, 3, 4, 5, 30], .keep [2], .draw [.op 0, .op 1, .op 2, .op 3, .op 5, .op 4, .op 6, .op 7, .op 8, .op 10, .op 9, .op 11, .op 12, .op 13, .op 14, .op 16, .op 17, .op 18, .op 15, .chk 17, .op 19, .op 20, .op 21, .op 22, .op 24, .op 25, .op 23, .chk 25, .op 26, .op 27, .op 28, .op 29, .op 30, .op 31, .op 32, .op 33] [2]]
def ir5 : IFun := ⟨1, [.tmp 2], (q (r [o (S 2) N (m (c (b false)))] [0]) (q (q (r [o (S 7) N (m (t 0)), o (S 8) N (.lenS (t 7)), o (S 9) N (.bin .gtr (t 8) (c (i I 6000)))] [0, 9]) (k (t 9) (r [o (S 10) N (m (t 0)), o (S 11) N (.slS (t 10) N (some (c (i I 6000)))), o (S 0) N (m (t 11))] [0]) s)) (q (r [o (S 13) N (m (t 0)), y (S 14) N (.fn 25) [(t 13)], o (S 12) N (m (t 14)), o (S 15) N (.ext (t 12) 0), o (S 16) N (.ext (t 12) 1), o (S 3) N (m (t 15)), o (S 4) N (m (t 16))] [0, 3, 4]) (q (r [o (S 18) N (m (t 0)), y (S 19) N (.fn 26) [(t 18)], o (S 17) N (m (t 19)), o (S 20) N (.ext (t 17) 0), o (S 21) N (.ext (t 17) 1), o (S 5) N (.new [(.slice none 0 0), (i I 0), (i I 0), (i U 0)]), o N N (.st 4 (t 5) (t 20)), o (S 6) N (m (t 21))] [0, 3, 4, 5, 6]) (q (q (r [o (S 22) N (m (t 4)), o (S 23) N (m (t 6)), o (S 24) N (.eqq true (.one 0) (t 22) (t 23)), o (S 25) N (m (t 24)), o (S 26) (S (25, false)) (m (t 4)), o (S 27) (S (25, false)) (m (t 3)), o (S 28) (S (25, false)) (.eqq true .nilP (t 27) (c (.pointer none))), o (S 29) (S (25, false)) (.eqq true (.one 0) (t 26) (t 28)), o (S 30) N (.pick (t 25) (c (b true)) (t 29))] [0, 3, 4, 5, 30]) (k (t 30) (q (r [o (S 2) N (m (c (b false)))] [2]) .ret) s)) (q (.draw 34 [o (S 31) N (m (t 4)), o (S 32) N (.un .not (t 31)), o (S 33) N (m (t 32)), o (S 34) (S (33, false)) (m (t 3)), o (S 36) (S (33, false)) (m (t 0)), y (S 35) (S (33, false)) (.fn 12) [(t 34)], o (S 37) (S (33, false)) (.bin .eql (t 35) (t 36)), o (S 38) (S (33, false)) (m (t 37)), o (S 39) (S (38, true)) (.ldN 4 (t 5)), o (S 41) (S (38, true)) (m (t 0)), y (S 40) (S (38, true)) (.fn 24) [(t 39)], o (S 42) (S (38, true)) (.bin .eql (t 40) (t 41)), o (S 43) (S (33, false)) (.pick (t 38) (t 42) (c (b false))), o (S 44) (S (33, false)) (m (t 43)), o (S 45) (S (44, true)) (m (t 3)), o (S 47) (S (44, true)) (.fa 0 (t 5)), o (S 48) (S (44, true)) (.ld1 (t 47)), o (S 49) (S (44, true)) (.lenV (t 48)), y (S 46) (S (44, true)) (.fn 16) [(t 45)], .chk 48 (some (44, true)) (.ld1 (t 47)), o (S 50) (S (44, true)) (.bin .eql (t 46) (t 49)), o (S 51) (S (33, false)) (.pick (t 44) (t 50) (c (b false))), o (S 52) (S (33, false)) (m (t 51)), o (S 53) (S (52, true)) (m (t 3)), o (S 55) (S (52, true)) (.fa 0 (t 5)), o (S 56) (S (52, true)) (.ld1 (t 55)), y (S 54) (S (52, true)) (.fn 17) [(t 53)], .chk 56 (some (52, true)) (.ld1 (t 55)), y (S 57) (S (52, true)) (.fn 23) [(t 56)], o (S 58) (S (52, true)) (.bin .eql (t 54) (t 57)), o (S 59) (S (33, false)) (.pick (t 52) (t 58) (c (b false))), o (S 60) N (.pick (t 33) (c (b true)) (t 59)), o (S 61) N (m (t 60)), y (S 62) (S (61, true)) (.fn 10) [], o (S 63) N (.pick (t 61) (t 62) (c (b false))), o (S 2) N (m (t 63))] [2]) .ret))))))⟩
theorem ok5 : compF Try.prog 5 hi5 = some ir5 := by kernel_rfl
end Go.Proofs.Ytkfjlbdedjoojaa.IrAll
namespace Go.Proofs.Ytkfjlbdedjoojaa.IrAll
open Go Go.Proofs.Ytkfjlbdedjoojaa.Am
open Go.Operand renaming tmp → t, const → c
open Go.Value renaming int → i, string → g, bool → b
open Go.IntKind renaming i64 → I, u64 → U, u8 → B
open Option renaming some → S, none → N
open Go.Proofs.Ytkfjlbdedjoojaa.Am.Step renaming op → o, call → y
open Go.Proofs.Ytkfjlbdedjoojaa.Am.IOp renaming mov → m
open Go.Proofs.Ytkfjlbdedjoojaa.Am.IC renaming seq → q, cond → k, run → r, skip → s
def hi10 : List Hint := [.keep [], .keep [1], .keep [1, 2], .keep [1, 2, 3], .keep [1, 2, 3, 4], .keep [1, 2, 3, 4, 5], .keep [1, 2, 3, 4, 5, 6, 7], .keep [0]]
def ir10 : IFun := ⟨0, [.tmp 0], (q (r [o (S 0) N (m (c (b false)))] []) (q (r [y (S 8) N (.fn 11) [(c (i I 2)), (c (i I 10))], o (S 1) N (m (t 8))] [1]) (q (r [o (S 9) N (m (t 1)), y (S 10) N (.fn 28) [(t 9), (c (g ⟨#[97]⟩)), (c (g ⟨#[49, 50, 51, 52]⟩)), (c (i U 7))], o (S 2) N (m (t 10))] [1, 2]) (q (r [o (S 11) N (m (t 1)), y (S 12) N (.fn 28) [(t 11), (c (g ⟨#[98]⟩)), (c (g ⟨#[49, 50]⟩)), (c (i U 0))], o (S 3) N (m (t 12))] [1, 2, 3]) (q (r [o (S 13) N (m (t 1)), y (S 14) N (.fn 28) [(t 13), (c (g ⟨#[99]⟩)), (c (g ⟨#[]⟩)), (c (i U 0))], o (S 4) N (m (t 14))] [1, 2, 3, 4]) (q (r [o (S 15) N (m (t 1)), y (S 16) N (.fn 28) [(t 15), (c (g ⟨#[97]⟩)), (c (g ⟨#[49, 50, 51, 52, 53, 54, 55]⟩)), (c (i U 0))], o (S 5) N (m (t 16))] [1, 2, 3, 4, 5]) (q (r [o (S 18) N (m (t 1)), y (S 19) N (.fn 30) [(t 18), (c (g ⟨#[98]⟩))], o (S 17) N (m (t 19)), o (S 20) N (.ext (t 17) 0), o (S 21) N (.ext (t 17) 1), o (S 6) N (.new [(g ⟨#[]⟩), (g ⟨#[]⟩), (i U 0)]), o N N (.st 3 (t 6) (t 20)), o (S 7) N (m (t 21))] [1, 2, 3, 4, 5, 6, 7]) (q (r [o (S 22) N (m (t 2)), o (S 23) N (.bin .eql (t 22) (c (i B 0))), o (S 24) N (m (t 23)), o (S 25) (S (24, true)) (m (t 3)), o (S 26) (S (24, true)) (.bin .eql (t 25) (c (i B 0))), o (S 27) N (.pick (t 24) (t 26) (c (b false))), o (S 28) N (m (t 27)), o (S 29) (S (28, true)) (m (t 4)), o (S 30) (S (28, true)) (.bin .eql (t 29) (c (i B 3))), o (S 31) N (.pick (t 28) (t 30) (c (b false))), o (S 32) N (m (t 31)), o (S 33) (S (32, true)) (m (t 5)), o (S 34) (S (32, true)) (.bin .eql (t 33) (c (i B 3))), o (S 35) N (.pick (t 32) (t 34) (c (b false))), o (S 36) N (m (t 35)), o (S 37) (S (36, true)) (m (t 1)), y (S 38) (S (36, true)) (.fn 17) [(t 37)], o (S 39) (S (36, true)) (.bin .eql (t 38) (c (i I 8))), o (S 40) N (.pick (t 36) (t 39) (c (b false))), o (S 41) N (m (t 40)), o (S 42) (S (41, true)) (m (t 1)), y (S 43) (S (41, true)) (.fn 16) [(t 42)], o (S 44) (S (41, true)) (.bin .eql (t 43) (c (i I 2))), o (S 45) N (.pick (t 41) (t 44) (c (b false))), o (S 46) N (m (t 45)), o (S 47) (S (46, true)) (m (t 7)), o (S 48) N (.pick (t 46) (t 47) (c (b false))), o (S 49) N (m (t 48)), o (S 50) (S (49, true)) (.fa 1 (t 6)), o (S 51) (S (49, true)) (.ld1 (t 50)), o (S 52) (S (49, true)) (.bin .eql (t 51) (c (g ⟨#[49, 50]⟩))), o (S 53) N (.pick (t 49) (t 52) (c (b false))), o (S 54) N (m (t 53)), o (S 55) (S (54, true)) (.fa 2 (t 6)), o (S 56) (S (54, true)) (.ld1 (t 55)), o (S 57) (S (54, true)) (.bin .eql (t 56) (c (i U 2))), o (S 58) N (.pick (t 54) (t 57) (c (b false))), o (S 59) N (m (t 58)), o (S 60) (S (59, true)) (m (t 1)), y (S 61) (S (59, true)) (.fn 32) [(t 60), (c (g ⟨#[97]⟩))], o (S 62) (S (59, true)) (.bin .eql (t 61) (c (i U 7))), o (S 63) N (.pick (t 59) (t 62) (c (b false))), o (S 0) N (m (t 63))] [0]) .ret))))))))⟩
theorem ok10 : compF Try.prog 10 hi10 = some ir10 := by kernel_rfl
def hi11 : List Hint := [.keep [0, 1], .keep [0, 1, 5], .keep [4]]
def ir11 : IFun := ⟨2, [.tmp 4], (q (r [o (S 4) N (m (c (.pointer none)))] [0, 1]) (q (r [o (S 5) N (m (.func 33))] [0, 1, 5]) (q (r [y (S 6) N (.fn 34) [], o (S 7) N (m (t 5)), o (S 8) N (m (t 0)), y (S 9) N (.val (t 7)) [(t 8)], o (S 10) N (m (t 5)), o (S 11) N (m (t 1)), y (S 12) N (.val (t 10)) [(t 11)], o (S 13) N (.build [(.pointer none), (i I 0), (i I 0), (i I 0), (i U 0)] [(0, 1, (t 6)), (1, 1, (t 9)), (2, 1, (t 12))]), o (S 14) N (.box (t 13)), o (S 4) N (m (t 14))] [4]) .ret)))⟩
theorem ok11 : compF Try.prog 11 hi11 = some ir11 := by kernel_rfl
def hi12 : List Hint := [.keep [0], .keep [0, 7], .keep [2], .draw [.op 0, .op 1, .op 2, .op 3, .op 4, .op 5, .op 6, .op 7, .op 8, .op 9, .op 10, .op 11, .op 12, .op 13, .op 14, .op 15, .op 16, .op 17, .op 18, .chk 3, .chk 8, .chk 13, .op 19, .opA 20, .op 21, .op 22] [0, 3], .keep [3, 34, 35, 36], .keep [3, 34, 35, 36], .keep [3, 34, 35, 36, 37], .keep [3, 5, 34, 35, 36], .draw [.op 0, .op 1, .op 2, .op 3, .op 4, .op 5, .op 8, .op 9, .op 10, .op 11, .op 12, .op 13, .opA 6, .op 7, .chk 10, .chk 13, .opA 14, .op 15, .op 16, .op 17, .op 18] [3, 34, 35, 36], .keep [3, 34, 35, 36], .keep [2]]
def ir12 : IFun := ⟨1, [.tmp 2], (q (r [o (S 2) N (m (c (g ⟨#[]⟩)))] [0]) (q (q (r [o (S 6) N (m (t 0)), o (S 7) N (.eqq false .nilP (t 6) (c (.pointer none)))] [0, 7]) (k (t 7) (q (r [o (S 2) N (m (c (g ⟨#[]⟩)))] [2]) .ret) s)) (q (.draw 23 [o (S 8) N (m (t 0)), o (S 9) N (.nck (t 8)), o (S 10) N (.fa 1 (t 9)), o (S 11) N (.ld1 (t 10)), o (S 12) N (.cvI .u64 (t 11)), o (S 13) N (m (t 0)), o (S 14) N (.nck (t 13)), o (S 15) N (.fa 2 (t 14)), o (S 16) N (.ld1 (t 15)), o (S 17) N (.cvI .u64 (t 16)), o (S 18) N (m (t 0)), o (S 19) N (.nck (t 18)), o (S 20) N (.fa 4 (t 19)), o (S 21) N (.ld1 (t 20)), o (S 22) N (m (t 0)), o (S 23) N (.nck (t 22)), o (S 24) N (.fa 0 (t 23)), o (S 25) N (.ld1 (t 24)), y (S 26) N (.fn 36) [(t 25)], .chk 11 none (.ld1 (t 10)), .chk 16 none (.ld1 (t 15)), .chk 21 none (.ld1 (t 20)), o (S 27) N (.cvI .u64 (t 26)), .opA (some 28) N (.bsl 1 4 [(i U 0), (i U 0), (i U 0), (i U 0)] [(0, 1, (t 12)), (1, 1, (t 17)), (2, 1, (t 21)), (3, 1, (t 27))]) 20, y (S 29) N (.fn 35) [(t 28)], o (S 3) N (m (t 29))] [0, 3]) (q (q (r [o (S 30) N (m (t 0)), o (S 31) N (.nck (t 30)), o (S 32) N (.fa 0 (t 31)), o (S 33) N (.ld1 (t 32)), y (S 34) N (.fn 37) [(t 33), (c (g ⟨#[]⟩)), (c (g ⟨#[]⟩)), (c (i I 4611686018427387903))], o (S 35) N (.lenV (t 34)), o (S 36) N (m (c (i I 0)))] [3, 34, 35, 36]) (.block 0 (.loop [3, 34, 35, 36] (q (r [o (S 37) N (.bin .lss (t 36) (t 35))] [3, 34, 35, 36, 37]) (q (k (t 37) .skip (.exit 0)) (q (.block 1 (q (r [o (S 38) N (.iaV 4 (t 34) (t 36)), o (S 39) N (.ldN 4 (t 38)), o (S 5) N (.new [(g ⟨#[]⟩), (g ⟨#[]⟩), (i U 0), (i U 0)]), o N N (.st 4 (t 5) (t 39))] [3, 5, 34, 35, 36]) (.draw 19 [o (S 40) N (m (t 3)), o (S 41) N (.fa 0 (t 5)), o (S 42) N (.ld1 (t 41)), o (S 43) N (.fa 1 (t 5)), o (S 44) N (.fa 0 (t 43)), o (S 45) N (.ld1 (t 44)), o (S 48) N (.fa 1 (t 5)), o (S 49) N (.fa 1 (t 48)), o (S 50) N (.ld1 (t 49)), o (S 51) N (.fa 1 (t 5)), o (S 52) N (.fa 2 (t 51)), o (S 53) N (.ld1 (t 52)), .opA (some 46) N (.bsl 1 2 [(g ⟨#[]⟩), (g ⟨#[]⟩)] [(0, 1, (t 42)), (1, 1, (t 45))]) 6, y (S 47) N (.fn 38) [(t 46)], .chk 50 none (.ld1 (t 49)), .chk 53 none (.ld1 (t 52)), .opA (some 54) N (.bsl 1 2 [(i U 0), (i U 0)] [(0, 1, (t 50)), (1, 1, (t 53))]) 14, y (S 55) N (.fn 35) [(t 54)], o (S 56) N (.bin .add (t 47) (t 55)), o (S 57) N (.bin .add (t 40) (t 56)), o (S 3) N (m (t 57))] [3, 34, 35, 36]))) (r [o (S 58) N (.bin .add (t 36) (c (i I 1))), o (S 36) N (m (t 58))] [3, 34, 35, 36]))))))) (q (r [o (S 59) N (m (t 3)), o (S 2) N (m (t 59))] [2]) .ret)))))⟩
theorem ok12 : compF Try.prog 12 hi12 = some ir12 := by kernel_rfl
def hi16 : List Hint := [.keep [0], .keep [0, 4], .keep [2], .keep [2]]
def ir16 : IFun := ⟨1, [.tmp 2], (q (r [o (S 2) N (m (c (i I 0)))] [0]) (q (q (r [o (S 3) N (m (t 0)), o (S 4) N (.eqq false .nilP (t 3) (c (.pointer none)))] [0, 4]) (k (t 4) (q (r [o (S 2) N (m (c (i I 0)))] [2]) .ret) s)) (q (r [o (S 5) N (m (t 0)), o (S 6) N (.nck (t 5)), o (S 7) N (.fa 0 (t 6)), o (S 8) N (.ld1 (t 7)), y (S 9) N (.fn 36) [(t 8)], o (S 2) N (m (t 9))] [2]) .ret)))⟩
theorem ok16 : compF Try.prog 16 hi16 = some ir16 := by kernel_rfl
def hi17 : List Hint := [.keep [0], .keep [0, 4], .keep [2], .keep [2]]
def ir17 : IFun := ⟨1, [.tmp 2], (q (r [o (S 2) N (m (c (i I 0)))] [0]) (q (q (r [o (S 3) N (m (t 0)), o (S 4) N (.eqq false .nilP (t 3) (c (.pointer none)))] [0, 4]) (k (t 4) (q (r [o (S 2) N (m (c (i I 0)))] [2]) .ret) s)) (q (r [o (S 5) N (m (t 0)), o (S 6) N (.nck (t 5)), o (S 7) N (.fa 3 (t 6)), o (S 8) N (.ld1 (t 7)), o (S 2) N (m (t 8))] [2]) .ret)))⟩
theorem ok17 : compF Try.prog 17 hi17 = some ir17 := by kernel_rfl
def hi23 : List Hint := [.keep [0], .keep [0, 3], .keep [0, 3, 4], .keep [0, 3, 4], .keep [0, 3, 4, 8], .draw [.op 0, .op 1, .op 2, .op 3, .op 4, .op 5, .op 6, .op 7, .op 8, .op 9, .op 10, .op 11, .op 12, .op 13, .op 14, .op 15] [0, 3, 4], .keep [0, 3, 4], .keep [2]]
def ir23 : IFun := ⟨1, [.tmp 2], (q (r [o (S 2) N (m (c (i I 0)))] [0]) (q (r [o (S 3) N (m (c (i I 0)))] [0, 3]) (q (q (r [o (S 4) N (m (c (i I 0)))] [0, 3, 4]) (.block 0 (.loop [0, 3, 4] (q (q (r [o (S 5) N (m (t 4)), o (S 6) N (m (t 0)), o (S 7) N (.lenV (t 6)), o (S 8) N (.bin .lss (t 5) (t 7))] [0, 3, 4, 8]) (k (t 8) .skip (.exit 0))) (q (.block 1 (.draw 16 [o (S 11) N (m (t 3)), o (S 12) N (m (t 0)), o (S 13) N (m (t 4)), o (S 14) N (.iaV 4 (t 12) (t 13)), o (S 15) N (.fa 0 (t 14)), o (S 16) N (.ld1 (t 15)), o (S 17) N (.lenS (t 16)), o (S 18) N (.bin .add (t 11) (t 17)), o (S 19) N (m (t 0)), o (S 20) N (m (t 4)), o (S 21) N (.iaV 4 (t 19) (t 20)), o (S 22) N (.fa 1 (t 21)), o (S 23) N (.ld1 (t 22)), o (S 24) N (.lenS (t 23)), o (S 25) N (.bin .add (t 18) (t 24)), o (S 3) N (m (t 25))] [0, 3, 4])) (r [o (S 9) N (m (t 4)), o (S 10) N (.bin .add (t 9) (c (i I 1))), o (S 4) N (m (t 10))] [0, 3, 4])))))) (q (r [o (S 26) N (m (t 3)), o (S 2) N (m (t 26))] [2]) .ret))))⟩
theorem ok23 : compF Try.prog 23 hi23 = some ir23 := by kernel_rfl
def hi24 : List Hint := [.keep [1], .keep [1, 3], .keep [1, 3, 4], .keep [1, 3, 4], .keep [1, 3, 4, 23], .draw [.op 0, .op 1, .op 2, .op 3, .op 4, .op 5, .op 6, .op 7, .op 8, .op 9, .op 10, .op 11, .op 12, .op 16, .op 17, .op 18, .op 19, .op 20, .op 21, .op 22, .op 23, .op 24, .op 25, .op 26, .op 27, .opA 13, .op 14, .chk 17, .chk 21, .chk 23, .chk 27, .op 15, .opA 28, .op 29, .op 30, .op 31] [1, 3, 4], .keep [1, 3, 4], .keep [2]]
def ir24 : IFun := ⟨1, [.tmp 2], (q (r [o (S 1) N (.box (t 0)), o (S 2) N (m (c (g ⟨#[]⟩)))] [1]) (q (r [o (S 5) N (.fa 1 (t 1)), o (S 6) N (.ld1 (t 5)), o (S 7) N (.cvI .u64 (t 6)), o (S 8) N (.fa 2 (t 1)), o (S 9) N (.ld1 (t 8)), o (S 10) N (.cvI .u64 (t 9)), o (S 11) N (.fa 3 (t 1)), o (S 12) N (.ld1 (t 11)), o (S 13) N (.fa 0 (t 1)), o (S 14) N (.ld1 (t 13)), o (S 15) N (.lenV (t 14)), o (S 16) N (.cvI .u64 (t 15)), o (S 17) N (.bsl 1 4 [(i U 0), (i U 0), (i U 0), (i U 0)] [(0, 1, (t 7)), (1, 1, (t 10)), (2, 1, (t 12)), (3, 1, (t 16))]), y (S 18) N (.fn 46) [(t 17)], o (S 3) N (m (t 18))] [1, 3]) (q (q (r [o (S 4) N (m (c (i I 0)))] [1, 3, 4]) (.block 0 (.loop [1, 3, 4] (q (q (r [o (S 19) N (m (t 4)), o (S 20) N (.fa 0 (t 1)), o (S 21) N (.ld1 (t 20)), o (S 22) N (.lenV (t 21)), o (S 23) N (.bin .lss (t 19) (t 22))] [1, 3, 4, 23]) (k (t 23) .skip (.exit 0))) (q (.block 1 (.draw 32 [o (S 26) N (m (t 3)), o (S 27) N (.fa 0 (t 1)), o (S 28) N (.ld1 (t 27)), o (S 29) N (m (t 4)), o (S 30) N (.iaV 4 (t 28) (t 29)), o (S 31) N (.fa 0 (t 30)), o (S 32) N (.ld1 (t 31)), o (S 33) N (.fa 0 (t 1)), o (S 34) N (.ld1 (t 33)), o (S 35) N (m (t 4)), o (S 36) N (.iaV 4 (t 34) (t 35)), o (S 37) N (.fa 1 (t 36)), o (S 38) N (.ld1 (t 37)), o (S 42) N (.fa 0 (t 1)), o (S 43) N (.ld1 (t 42)), o (S 44) N (m (t 4)), o (S 45) N (.iaV 4 (t 43) (t 44)), o (S 46) N (.fa 2 (t 45)), o (S 47) N (.ld1 (t 46)), o (S 48) N (.fa 0 (t 1)), o (S 49) N (.ld1 (t 48)), o (S 50) N (m (t 4)), o (S 51) N (.iaV 4 (t 49) (t 50)), o (S 52) N (.fa 3 (t 51)), o (S 53) N (.ld1 (t 52)), .opA (some 39) N (.bsl 1 2 [(g ⟨#[]⟩), (g ⟨#[]⟩)] [(0, 1, (t 32)), (1, 1, (t 38))]) 13, y (S 40) N (.fn 47) [(t 39)], .chk 43 none (.ld1 (t 42)), .chk 47 none (.ld1 (t 46)), .chk 49 none (.ld1 (t 48)), .chk 53 none (.ld1 (t 52)), o (S 41) N (.bin .add (t 26) (t 40)), .opA (some 54) N (.bsl 1 2 [(i U 0), (i U 0)] [(0, 1, (t 47)), (1, 1, (t 53))]) 28, y (S 55) N (.fn 46) [(t 54)], o (S 56) N (.bin .add (t 41) (t 55)), o (S 3) N (m (t 56))] [1, 3, 4])) (r [o (S 24) N (m (t 4)), o (S 25) N (.bin .add (t 24) (c (i I 1))), o (S 4) N (m (t 25))] [1, 3, 4])))))) (q (r [o (S 57) N (m (t 3)), o (S 2) N (m (t 57))] [2]) .ret))))⟩
theorem ok24 : compF Try.prog 24 hi24 = some ir24 := by kernel_rfl
def hi25 : List Hint := [.keep [0], .keep [0, 4, 5], .keep [0, 4, 5, 6], .keep [0, 5, 6, 7], .keep [0, 5, 6, 7, 8, 9], .keep [0, 5, 6, 7, 8, 9, 27], .keep [2, 3], .keep [0, 5, 6, 7, 10], .keep [0, 5, 6, 7, 10, 11], .keep [0, 5, 6, 7, 10, 11, 12], .keep [0, 5, 6, 7, 10, 11, 12], .keep [0, 5, 6, 7, 10, 11, 12, 41], .keep [0, 5, 6, 7, 10, 11, 12, 13, 14], .keep [0, 5, 6, 7, 10, 11, 12, 13, 14], .keep [0, 5, 6, 7, 10, 11, 12], .keep [0, 5, 6, 7, 10, 11, 12], .keep [0, 5, 10], .keep [10, 83], .keep [2, 3], .keep [2, 3]]
def ir25 : IFun := ⟨1, [.tmp 2, .tmp 3], (q (r [o (S 2) N (m (c (.pointer none))), o (S 3) N (m (c (b false)))] [0]) (q (r [o (S 15) N (m (t 0)), o (S 4) N (.new [(g ⟨#[]⟩)]), o (S 5) N (.new [(b false)]), o N N (.st 1 (t 4) (t 15)), o N N (.st 1 (t 5) (c (b true)))] [0, 4, 5]) (q (r [o (S 16) N (.mkF (.func 48) [] [(t 4), (t 5)]), o (S 6) N (m (t 16))] [0, 4, 5, 6]) (q (r [o (S 17) N (.mkF (.func 50) [] [(t 4), (t 5)]), o (S 7) N (m (t 17))] [0, 5, 6, 7]) (q (r [o (S 18) N (m (t 6)), y (S 19) N (.val (t 18)) [], o (S 20) N (m (t 6)), y (S 21) N (.val (t 20)) [], o (S 8) N (m (t 19)), o (S 9) N (m (t 21))] [0, 5, 6, 7, 8, 9]) (q (q (r [o (S 22) N (m (t 8)), o (S 23) N (.bin .gtr (t 22) (c (i U 2147483647))), o (S 24) N (m (t 23)), o (S 25) (S (24, false)) (m (t 9)), o (S 26) (S (24, false)) (.bin .gtr (t 25) (c (i U 2147483647))), o (S 27) N (.pick (t 24) (c (b true)) (t 26))] [0, 5, 6, 7, 8, 9, 27]) (k (t 27) (q (r [o (S 2) N (m (c (.pointer none))), o (S 3) N (m (c (b false)))] [2, 3]) .ret) s)) (q (r [o (S 28) N (m (t 8)), o (S 29) N (.cvI .i64 (t 28)), o (S 30) N (m (t 9)), o (S 31) N (.cvI .i64 (t 30)), y (S 32) N (.fn 11) [(t 29), (t 31)], o (S 10) N (m (t 32))] [0, 5, 6, 7, 10]) (q (r [o (S 33) N (m (t 6)), y (S 34) N (.val (t 33)) [], o (S 11) N (m (t 34))] [0, 5, 6, 7, 10, 11]) (q (q (r [o (S 35) N (m (t 6)), y (S 36) N (.val (t 35)) [], o (S 12) N (m (t 36))] [0, 5, 6, 7, 10, 11, 12]) (.block 0 (.loop [0, 5, 6, 7, 10, 11, 12] (q (q (r [o (S 37) N (m (t 12)), o (S 38) N (.bin .gtr (t 37) (c (i U 0))), o (S 39) N (m (t 38)), o (S 40) (S (39, true)) (.ld1 (t 5)), o (S 41) N (.pick (t 39) (t 40) (c (b false)))] [0, 5, 6, 7, 10, 11, 12, 41]) (k (t 41) .skip (.exit 0))) (q (.block 1 (q (r [o (S 44) N (m (t 7)), y (S 45) N (.val (t 44)) [], o (S 46) N (m (t 7)), y (S 47) N (.val (t 46)) [], o (S 13) N (m (t 45)), o (S 14) N (m (t 47))] [0, 5, 6, 7, 10, 11, 12, 13, 14]) (q (r [o (S 48) N (m (t 10)), o (S 49) N (m (t 6)), y (S 50) N (.val (t 49)) [], o (S 51) N (.bin .sub (t 50) (c (i U 1))), o (S 52) N (.nck (t 48)), o (S 53) N (.fa 4 (t 52)), o N N (.st 1 (t 53) (t 51))] [0, 5, 6, 7, 10, 11, 12, 13, 14]) (r [o (S 54) N (.ld1 (t 5)), o (S 55) N (m (t 54)), o (S 56) (S (55, true)) (m (t 10)), o (S 57) (S (55, true)) (.nck (t 56)), o (S 58) (S (55, true)) (.fa 4 (t 57)), o (S 59) (S (55, true)) (.ld1 (t 58)), o (S 60) (S (55, true)) (m (t 11)), o (S 61) (S (55, true)) (.bin .lss (t 59) (t 60)), o (S 62) N (.pick (t 55) (t 61) (c (b false))), o (S 63) N (m (t 62)), o (S 64) (S (63, true)) (m (t 10)), o (S 65) (S (63, true)) (m (t 13)), o (S 66) (S (63, true)) (m (t 14)), o (S 67) (S (63, true)) (m (t 6)), y (S 68) (S (63, true)) (.val (t 67)) [], y (S 69) (S (63, true)) (.fn 28) [(t 64), (t 65), (t 66), (t 68)], o (S 70) (S (63, true)) (.bin .eql (t 69) (c (i B 0))), o (S 71) N (.pick (t 63) (t 70) (c (b false))), o N N (.st 1 (t 5) (t 71))] [0, 5, 6, 7, 10, 11, 12])))) (r [o (S 42) N (m (t 12)), o (S 43) N (.bin .sub (t 42) (c (i U 1))), o (S 12) N (m (t 43))] [0, 5, 6, 7, 10, 11, 12])))))) (q (r [o (S 72) N (m (t 10)), o (S 73) N (m (t 11)), o (S 74) N (.nck (t 72)), o (S 75) N (.fa 4 (t 74)), o N N (.st 1 (t 75) (t 73))] [0, 5, 10]) (q (q (r [o (S 76) N (.ld1 (t 5)), o (S 77) N (.un .not (t 76)), o (S 78) N (m (t 77)), o (S 79) (S (78, false)) (m (t 10)), y (S 80) (S (78, false)) (.fn 12) [(t 79)], o (S 81) (S (78, false)) (m (t 0)), o (S 82) (S (78, false)) (.bin .neq (t 80) (t 81)), o (S 83) N (.pick (t 78) (c (b true)) (t 82))] [10, 83]) (k (t 83) (q (r [o (S 2) N (m (c (.pointer none))), o (S 3) N (m (c (b false)))] [2, 3]) .ret) s)) (q (r [o (S 84) N (m (t 10)), o (S 2) N (m (t 84)), o (S 3) N (m (c (b true)))] [2, 3]) .ret))))))))))))⟩
theorem ok25 : compF Try.prog 25 hi25 = some ir25 := by kernel_rfl
def hi26 : List Hint := [.keep [0, 2], .keep [0, 2, 4], .keep [0, 2, 4, 5], .keep [0, 2, 4, 5, 6], .keep [0, 2, 4, 5, 6], .keep [0, 2, 4, 5, 6, 23], .keep [0, 2, 4, 5, 6, 7, 8, 9], .keep [0, 2, 4, 5, 6, 7, 8, 35], .keep [2, 3], .keep [0, 2, 4, 5, 6, 8], .keep [0, 2, 4, 5, 6], .keep [0, 2, 4, 5, 6], .keep [0, 2, 4, 5, 62], .keep [2, 3], .draw [.op 0, .op 1, .op 2, .op 3, .op 4, .op 5, .op 6, .op 7, .op 8, .op 9, .op 10, .op 11, .opA 12, .op 13] [0, 2, 4, 5, 10], .keep [0, 2, 4, 5, 10, 11], .keep [0, 2, 4, 5, 10, 11], .keep [0, 2, 4, 5, 10, 11, 81], .keep [0, 2, 4, 5, 10, 11, 12], .keep [0, 2, 4, 5, 10, 11, 12, 13, 14, 15], .keep [0, 2, 4, 5, 10, 11, 12, 13, 14, 94], .keep [2, 3], .keep [0, 2, 4, 5, 10, 11, 12, 13], .keep [0, 2, 4, 5, 10, 11, 12, 13, 15, 16, 17], .keep [0, 2, 4, 5, 10, 11, 12, 13, 16, 17, 108], .keep [2, 3], .keep [0, 2, 4, 5, 10, 11, 12, 13, 16], .keep [0, 2, 4, 5, 10, 11, 12, 13, 15, 16, 18, 19], .keep [0, 2, 4, 5, 10, 11, 12, 13, 16, 18, 19, 122], .keep [2, 3], .keep [0, 2, 4, 5, 10, 11, 12, 13, 16, 18], .keep [0, 2, 4, 5, 10, 11, 12, 13, 15, 16, 18, 20, 21], .keep [0, 2, 4, 5, 10, 11, 12, 13, 16, 18, 20, 21, 165], .keep [2, 3], .keep [0, 2, 4, 5, 10, 11, 12, 13, 16, 18, 20], .keep [0, 2, 4, 5, 10, 11, 12, 16, 18, 20], .keep [0, 2, 4, 5, 10, 11, 12, 18, 20], .keep [0, 2, 4, 5, 10, 11, 12, 20], .keep [0, 2, 4, 5, 10, 11, 12], .keep [0, 2, 4, 5, 10, 11], .keep [0, 2, 4, 5, 10, 11], .draw [.op 0, .op 1, .op 2, .op 3, .op 4, .op 5, .op 6, .op 7, .op 8, .op 9, .op 10, .op 11, .op 12, .op 13, .op 14, .op 16, .op 17, .op 15, .chk 17, .op 18, .op 19] [2, 10, 203], .keep [2, 3], .keep [2, 3]]
def ir26 : IFun := ⟨1, [.cell 2 (some 4), .tmp 3], (q (r [o (S 2) N (.new [(.slice none 0 0), (i I 0), (i I 0), (i U 0)]), o (S 3) N (m (c (b false)))] [0, 2]) (q (r [o (S 4) N (m (c (i I 0)))] [0, 2, 4]) (q (r [o (S 5) N (m (c (.slice none 0 0)))] [0, 2, 4, 5]) (q (q (r [o (S 6) N (m (c (i I 0)))] [0, 2, 4, 5, 6]) (.block 0 (.loop [0, 2, 4, 5, 6] (q (q (r [o (S 22) N (m (t 6)), o (S 23) N (.bin .lss (t 22) (c (i I 4)))] [0, 2, 4, 5, 6, 23]) (k (t 23) .skip (.exit 0))) (q (.block 1 (q (r [o (S 27) N (m (t 0)), o (S 28) N (m (t 4)), o (S 29) N (.slS (t 27) (S (t 28)) none), y (S 30) N (.fn 52) [(t 29)], o (S 26) N (m (t 30)), o (S 31) N (.ext (t 26) 0), o (S 32) N (.ext (t 26) 1), o (S 33) N (.ext (t 26) 2), o (S 7) N (m (t 31)), o (S 8) N (m (t 32)), o (S 9) N (m (t 33))] [0, 2, 4, 5, 6, 7, 8, 9]) (q (q (r [o (S 34) N (m (t 9)), o (S 35) N (.un .not (t 34))] [0, 2, 4, 5, 6, 7, 8, 35]) (k (t 35) (q (r [o (S 36) N (.build [(.slice none 0 0), (i I 0), (i I 0), (i U 0)] []), o N N (.st 4 (t 2) (t 36)), o (S 3) N (m (c (b false)))] [2, 3]) .ret) s)) (q (r [o (S 37) N (m (t 5)), o (S 38) N (m (t 7)), o (S 39) N (.bsl 1 1 [(i U 0)] [(0, 1, (t 38))]), o (S 40) N (.app 1 8 (t 37) (t 39)), o (S 5) N (m (t 40))] [0, 2, 4, 5, 6, 8]) (r [o (S 41) N (m (t 4)), o (S 42) N (m (t 8)), o (S 43) N (.bin .add (t 41) (t 42)), o (S 4) N (m (t 43))] [0, 2, 4, 5, 6]))))) (r [o (S 24) N (m (t 6)), o (S 25) N (.bin .add (t 24) (c (i I 1))), o (S 6) N (m (t 25))] [0, 2, 4, 5, 6])))))) (q (q (r [o (S 44) N (m (t 5)), o (S 45) N (.iaV 1 (t 44) (c (i I 0))), o (S 46) N (.ld1 (t 45)), o (S 47) N (.bin .gtr (t 46) (c (i U 2147483647))), o (S 48) N (m (t 47)), o (S 49) (S (48, false)) (m (t 5)), o (S 50) (S (48, false)) (.iaV 1 (t 49) (c (i I 1))), o (S 51) (S (48, false)) (.ld1 (t 50)), o (S 52) (S (48, false)) (.bin .gtr (t 51) (c (i U 2147483647))), o (S 53) N (.pick (t 48) (c (b true)) (t 52)), o (S 54) N (m (t 53)), o (S 55) (S (54, false)) (m (t 5)), o (S 56) (S (54, false)) (.iaV 1 (t 55) (c (i I 3))), o (S 57) (S (54, false)) (.ld1 (t 56)), o (S 58) (S (54, false)) (m (t 0)), o (S 59) (S (54, false)) (.lenS (t 58)), o (S 60) (S (54, false)) (.cvI .u64 (t 59)), o (S 61) (S (54, false)) (.bin .gtr (t 57) (t 60)), o (S 62) N (.pick (t 54) (c (b true)) (t 61))] [0, 2, 4, 5, 62]) (k (t 62) (q (r [o (S 63) N (.build [(.slice none 0 0), (i I 0), (i I 0), (i U 0)] []), o N N (.st 4 (t 2) (t 63)), o (S 3) N (m (c (b false)))] [2, 3]) .ret) s)) (q (.draw 14 [o (S 64) N (m (t 5)), o (S 65) N (.iaV 1 (t 64) (c (i I 0))), o (S 66) N (.ld1 (t 65)), o (S 67) N (.cvI .i64 (t 66)), o (S 68) N (m (t 5)), o (S 69) N (.iaV 1 (t 68) (c (i I 1))), o (S 70) N (.ld1 (t 69)), o (S 71) N (.cvI .i64 (t 70)), o (S 72) N (m (t 5)), o (S 73) N (.iaV 1 (t 72) (c (i I 2))), o (S 74) N (.ld1 (t 73)), o (S 75) N (.build [(.slice none 0 0), (i I 0), (i I 0), (i U 0)] [(1, 1, (t 67)), (2, 1, (t 71)), (3, 1, (t 74))]), .opA (some 10) N (.new [(.slice none 0 0), (i I 0), (i I 0), (i U 0)]) 12, o N N (.st 4 (t 10) (t 75))] [0, 2, 4, 5, 10]) (q (q (r [o (S 11) N (m (c (i I 0)))] [0, 2, 4, 5, 10, 11]) (.block 2 (.loop [0, 2, 4, 5, 10, 11] (q (q (r [o (S 76) N (m (t 11)), o (S 77) N (m (t 5)), o (S 78) N (.iaV 1 (t 77) (c (i I 3))), o (S 79) N (.ld1 (t 78)), o (S 80) N (.cvI .i64 (t 79)), o (S 81) N (.bin .lss (t 76) (t 80))] [0, 2, 4, 5, 10, 11, 81]) (k (t 81) .skip (.exit 2))) (q (.block 3 (q (r [o (S 84) N (.build [(g ⟨#[]⟩), (g ⟨#[]⟩), (i U 0), (i U 0)] []), o (S 12) N (.new [(g ⟨#[]⟩), (g ⟨#[]⟩), (i U 0), (i U 0)]), o N N (.st 4 (t 12) (t 84))] [0, 2, 4, 5, 10, 11, 12]) (q (r [o (S 86) N (m (t 0)), o (S 87) N (m (t 4)), o (S 88) N (.slS (t 86) (S (t 87)) none), y (S 89) N (.fn 53) [(t 88)], o (S 85) N (m (t 89)), o (S 90) N (.ext (t 85) 0), o (S 91) N (.ext (t 85) 1), o (S 92) N (.ext (t 85) 2), o (S 13) N (m (t 90)), o (S 14) N (m (t 91)), o (S 15) N (m (t 92))] [0, 2, 4, 5, 10, 11, 12, 13, 14, 15]) (q (q (r [o (S 93) N (m (t 15)), o (S 94) N (.un .not (t 93))] [0, 2, 4, 5, 10, 11, 12, 13, 14, 94]) (k (t 94) (q (r [o (S 95) N (.build [(.slice none 0 0), (i I 0), (i I 0), (i U 0)] []), o N N (.st 4 (t 2) (t 95)), o (S 3) N (m (c (b false)))] [2, 3]) .ret) s)) (q (r [o (S 96) N (m (t 4)), o (S 97) N (m (t 14)), o (S 98) N (.bin .add (t 96) (t 97)), o (S 4) N (m (t 98))] [0, 2, 4, 5, 10, 11, 12, 13]) (q (r [o (S 100) N (m (t 0)), o (S 101) N (m (t 4)), o (S 102) N (.slS (t 100) (S (t 101)) none), y (S 103) N (.fn 53) [(t 102)], o (S 99) N (m (t 103)), o (S 104) N (.ext (t 99) 0), o (S 105) N (.ext (t 99) 1), o (S 106) N (.ext (t 99) 2), o (S 16) N (m (t 104)), o (S 17) N (m (t 105)), o (S 15) N (m (t 106))] [0, 2, 4, 5, 10, 11, 12, 13, 15, 16, 17]) (q (q (r [o (S 107) N (m (t 15)), o (S 108) N (.un .not (t 107))] [0, 2, 4, 5, 10, 11, 12, 13, 16, 17, 108]) (k (t 108) (q (r [o (S 109) N (.build [(.slice none 0 0), (i I 0), (i I 0), (i U 0)] []), o N N (.st 4 (t 2) (t 109)), o (S 3) N (m (c (b false)))] [2, 3]) .ret) s)) (q (r [o (S 110) N (m (t 4)), o (S 111) N (m (t 17)), o (S 112) N (.bin .add (t 110) (t 111)), o (S 4) N (m (t 112))] [0, 2, 4, 5, 10, 11, 12, 13, 16]) (q (r [o (S 114) N (m (t 0)), o (S 115) N (m (t 4)), o (S 116) N (.slS (t 114) (S (t 115)) none), y (S 117) N (.fn 52) [(t 116)], o (S 113) N (m (t 117)), o (S 118) N (.ext (t 113) 0), o (S 119) N (.ext (t 113) 1), o (S 120) N (.ext (t 113) 2), o (S 18) N (m (t 118)), o (S 19) N (m (t 119)), o (S 15) N (m (t 120))] [0, 2, 4, 5, 10, 11, 12, 13, 15, 16, 18, 19]) (q (q (r [o (S 121) N (m (t 15)), o (S 122) N (.un .not (t 121))] [0, 2, 4, 5, 10, 11, 12, 13, 16, 18, 19, 122]) (k (t 122) (q (r [o (S 123) N (.build [(.slice none 0 0), (i I 0), (i I 0), (i U 0)] []), o N N (.st 4 (t 2) (t 123)), o (S 3) N (m (c (b false)))] [2, 3]) .ret) s)) (q (r [o (S 124) N (m (t 4)), o (S 125) N (m (t 19)), o (S 126) N (.bin .add (t 124) (t 125)), o (S 4) N (m (t 126))] [0, 2, 4, 5, 10, 11, 12, 13, 16, 18]) (q (r [o (S 128) N (m (t 0)), o (S 129) N (m (t 4)), o (S 130) N (.slS (t 128) (S (t 129)) none), y (S 131) N (.fn 52) [(t 130)], o (S 127) N (m (t 131)), o (S 132) N (.ext (t 127) 0), o (S 133) N (.ext (t 127) 1), o (S 134) N (.ext (t 127) 2), o (S 20) N (m (t 132)), o (S 21) N (m (t 133)), o (S 15) N (m (t 134))] [0, 2, 4, 5, 10, 11, 12, 13, 15, 16, 18, 20, 21]) (q (q (r [o (S 135) N (m (t 15)), o (S 136) N (.un .not (t 135)), o (S 137) N (m (t 136)), o (S 138) (S (137, false)) (m (t 18)), o (S 139) (S (137, false)) (.bin .lss (t 138) (c (i U 1))), o (S 140) N (.pick (t 137) (c (b true)) (t 139)), o (S 141) N (m (t 140)), o (S 142) (S (141, false)) (m (t 18)), o (S 143) (S (141, false)) (.fa 3 (t 10)), o (S 144) (S (141, false)) (.ld1 (t 143)), o (S 145) (S (141, false)) (.bin .gtr (t 142) (t 144)), o (S 146) N (.pick (t 141) (c (b true)) (t 145)), o (S 147) N (m (t 146)), o (S 148) (S (147, false)) (.fa 0 (t 10)), o (S 149) (S (147, false)) (.ld1 (t 148)), o (S 150) (S (147, false)) (.lenV (t 149)), o (S 151) (S (147, false)) (.bin .gtr (t 150) (c (i I 0))), o (S 152) (S (147, false)) (m (t 151)), o (S 153) (S (152, true)) (.fa 0 (t 10)), o (S 154) (S (152, true)) (.ld1 (t 153)), o (S 155) (S (152, true)) (.fa 0 (t 10)), o (S 156) (S (152, true)) (.ld1 (t 155)), o (S 157) (S (152, true)) (.lenV (t 156)), o (S 158) (S (152, true)) (.bin .sub (t 157) (c (i I 1))), o (S 159) (S (152, true)) (.iaV 4 (t 154) (t 158)), o (S 160) (S (152, true)) (.fa 0 (t 159)), o (S 161) (S (152, true)) (.ld1 (t 160)), o (S 162) (S (152, true)) (m (t 13)), o (S 163) (S (152, true)) (.bin .geq (t 161) (t 162)), o (S 164) (S (147, false)) (.pick (t 152) (t 163) (c (b false))), o (S 165) N (.pick (t 147) (c (b true)) (t 164))] [0, 2, 4, 5, 10, 11, 12, 13, 16, 18, 20, 21, 165]) (k (t 165) (q (r [o (S 166) N (.build [(.slice none 0 0), (i I 0), (i I 0), (i U 0)] []), o N N (.st 4 (t 2) (t 166)), o (S 3) N (m (c (b false)))] [2, 3]) .ret) s)) (q (r [o (S 167) N (m (t 4)), o (S 168) N (m (t 21)), o (S 169) N (.bin .add (t 167) (t 168)), o (S 4) N (m (t 169))] [0, 2, 4, 5, 10, 11, 12, 13, 16, 18, 20]) (q (r [o (S 170) N (m (t 13)), o (S 171) N (.fa 0 (t 12)), o N N (.st 1 (t 171) (t 170))] [0, 2, 4, 5, 10, 11, 12, 16, 18, 20]) (q (r [o (S 172) N (m (t 16)), o (S 173) N (.fa 1 (t 12)), o N N (.st 1 (t 173) (t 172))] [0, 2, 4, 5, 10, 11, 12, 18, 20]) (q (r [o (S 174) N (m (t 18)), o (S 175) N (.fa 2 (t 12)), o N N (.st 1 (t 175) (t 174))] [0, 2, 4, 5, 10, 11, 12, 20]) (q (r [o (S 176) N (m (t 20)), o (S 177) N (.fa 3 (t 12)), o N N (.st 1 (t 177) (t 176))] [0, 2, 4, 5, 10, 11, 12]) (r [o (S 178) N (.fa 0 (t 10)), o (S 179) N (.ld1 (t 178)), o (S 180) N (.ldN 4 (t 12)), o (S 181) N (.bsl 4 1 [(g ⟨#[]⟩), (g ⟨#[]⟩), (i U 0), (i U 0)] [(0, 4, (t 180))]), o (S 182) N (.app 4 48 (t 179) (t 181)), o (S 183) N (.fa 0 (t 10)), o N N (.st 1 (t 183) (t 182))] [0, 2, 4, 5, 10, 11]))))))))))))))))))) (r [o (S 82) N (m (t 11)), o (S 83) N (.bin .add (t 82) (c (i I 1))), o (S 11) N (m (t 83))] [0, 2, 4, 5, 10, 11])))))) (q (q (.draw 20 [o (S 184) N (m (t 4)), o (S 185) N (m (t 0)), o (S 186) N (.lenS (t 185)), o (S 187) N (.bin .neq (t 184) (t 186)), o (S 188) N (m (t 187)), o (S 189) (S (188, false)) (.fa 0 (t 10)), o (S 190) (S (188, false)) (.ld1 (t 189)), o (S 191) (S (188, false)) (.lenV (t 190)), o (S 192) (S (188, false)) (.fa 1 (t 10)), o (S 193) (S (188, false)) (.ld1 (t 192)), o (S 194) (S (188, false)) (.bin .gtr (t 191) (t 193)), o (S 195) N (.pick (t 188) (c (b true)) (t 194)), o (S 196) N (m (t 195)), o (S 197) (S (196, false)) (.fa 0 (t 10)), o (S 198) (S (196, false)) (.ld1 (t 197)), o (S 200) (S (196, false)) (.fa 2 (t 10)), o (S 201) (S (196, false)) (.ld1 (t 200)), y (S 199) (S (196, false)) (.fn 23) [(t 198)], .chk 201 (some (196, false)) (.ld1 (t 200)), o (S 202) (S (196, false)) (.bin .gtr (t 199) (t 201)), o (S 203) N (.pick (t 196) (c (b true)) (t 202))] [2, 10, 203]) (k (t 203) (q (r [o (S 204) N (.build [(.slice none 0 0), (i I 0), (i I 0), (i U 0)] []), o N N (.st 4 (t 2) (t 204)), o (S 3) N (m (c (b false)))] [2, 3]) .ret) s)) (q (r [o (S 205) N (.ldN 4 (t 10)), o N N (.st 4 (t 2) (t 205)), o (S 3) N (m (c (b true)))] [2, 3]) .ret)))))))))⟩
theorem ok26 : compF Try.prog 26 hi26 = some ir26 := by kernel_rfl
end Go.Proofs.Ytkfjlbdedjoojaa.IrAll
namespace Go.Proofs.Ytkfjlbdedjoojaa.IrAll
open Go Go.Proofs.Ytkfjlbdedjoojaa.Am
open Go.Operand renaming tmp → t, const → c
open Go.Value renaming int → i, string → g, bool → b
open Go.IntKind renaming i64 → I, u64 → U, u8 → B
open Option renaming some → S, none → N
open Go.Proofs.Ytkfjlbdedjoojaa.Am.Step renaming op → o, call → y
open Go.Proofs.Ytkfjlbdedjoojaa.Am.IOp renaming mov → m
open Go.Proofs.Ytkfjlbdedjoojaa.Am.IC renaming seq → q, cond → k, run → r, skip → s
def hi28 : List Hint := [.keep [0, 1, 2, 3], .keep [0, 1, 2, 3, 12], .keep [8], .keep [0, 1, 2, 3, 9, 10], .draw [.op 0, .op 1, .op 2, .op 3, .op 5, .op 7, .op 8, .op 9, .op 10, .op 4, .chk 10, .op 6, .op 11, .op 12, .op 13, .op 14, .op 15, .op 16, .op 17, .op 18, .op 19, .op 20, .op 21, .op 22, .op 23, .op 24] [0, 1, 2, 3, 10, 44], .keep [8], .keep [0, 1, 2, 3, 10], .keep [0, 1, 2, 3], .draw [.op 0, .op 1, .op 2, .op 3, .op 4, .op 5, .op 6, .op 7, .op 8, .op 9, .op 10, .op 11, .op 12] [], .keep [8]]
def ir28 : IFun := ⟨4, [.tmp 8], (q (r [o (S 8) N (m (c (i B 0)))] [0, 1, 2, 3]) (q (q (r [o (S 11) N (m (t 0)), o (S 12) N (.eqq false .nilP (t 11) (c (.pointer none)))] [0, 1, 2, 3, 12]) (k (t 12) (q (r [o (S 8) N (m (c (i B 3)))] [8]) .ret) s)) (q (r [o (S 14) N (m (t 0)), o (S 15) N (m (t 1)), o (S 16) N (m (t 2)), y (S 17) N (.fn 55) [(t 14), (t 15), (t 16)], o (S 13) N (m (t 17)), o (S 18) N (.ext (t 13) 0), o (S 19) N (.ext (t 13) 1), o (S 9) N (m (t 18)), o (S 10) N (m (t 19))] [0, 1, 2, 3, 9, 10]) (q (q (.draw 25 [o (S 20) N (m (t 0)), o (S 21) N (.nck (t 20)), o (S 22) N (.fa 0 (t 21)), o (S 23) N (.ld1 (t 22)), o (S 25) N (m (t 9)), o (S 27) N (m (t 0)), o (S 28) N (.nck (t 27)), o (S 29) N (.fa 1 (t 28)), o (S 30) N (.ld1 (t 29)), y (S 24) N (.fn 36) [(t 23)], .chk 30 none (.ld1 (t 29)), o (S 26) N (.bin .add (t 24) (t 25)), o (S 31) N (.bin .gtr (t 26) (t 30)), o (S 32) N (m (t 31)), o (S 33) (S (32, false)) (m (t 0)), o (S 34) (S (32, false)) (.nck (t 33)), o (S 35) (S (32, false)) (.fa 3 (t 34)), o (S 36) (S (32, false)) (.ld1 (t 35)), o (S 37) (S (32, false)) (m (t 10)), o (S 38) (S (32, false)) (.bin .add (t 36) (t 37)), o (S 39) (S (32, false)) (m (t 0)), o (S 40) (S (32, false)) (.nck (t 39)), o (S 41) (S (32, false)) (.fa 2 (t 40)), o (S 42) (S (32, false)) (.ld1 (t 41)), o (S 43) (S (32, false)) (.bin .gtr (t 38) (t 42)), o (S 44) N (.pick (t 32) (c (b true)) (t 43))] [0, 1, 2, 3, 10, 44]) (k (t 44) (q (r [o (S 8) N (m (c (i B 3)))] [8]) .ret) s)) (q (r [o (S 45) N (m (t 0)), o (S 46) N (.nck (t 45)), o (S 47) N (.fa 4 (t 46)), o (S 48) N (.ld1 (t 47)), o (S 49) N (.bin .add (t 48) (c (i U 1))), o (S 50) N (.nck (t 45)), o (S 51) N (.fa 4 (t 50)), o N N (.st 1 (t 51) (t 49))] [0, 1, 2, 3, 10]) (q (r [o (S 52) N (m (t 0)), o (S 53) N (.nck (t 52)), o (S 54) N (.fa 3 (t 53)), o (S 55) N (.ld1 (t 54)), o (S 56) N (m (t 10)), o (S 57) N (.bin .add (t 55) (t 56)), o (S 58) N (.nck (t 52)), o (S 59) N (.fa 3 (t 58)), o N N (.st 1 (t 59) (t 57))] [0, 1, 2, 3]) (q (.draw 13 [o (S 60) N (m (t 0)), o (S 61) N (.nck (t 60)), o (S 62) N (.fa 0 (t 61)), o (S 63) N (.ld1 (t 62)), o (S 64) N (m (t 1)), o (S 65) N (m (t 2)), o (S 66) N (m (t 0)), o (S 67) N (.nck (t 66)), o (S 68) N (.fa 4 (t 67)), o (S 69) N (.ld1 (t 68)), o (S 70) N (m (t 3)), o (S 71) N (.build [(g ⟨#[]⟩), (i U 0), (i U 0)] [(0, 1, (t 65)), (1, 1, (t 69)), (2, 1, (t 70))]), y (S 72) N (.fn 56) [(t 63), (t 64), (t 71)]] []) (q (r [o (S 8) N (m (c (i B 0)))] [8]) .ret))))))))⟩
theorem ok28 : compF Try.prog 28 hi28 = some ir28 := by kernel_rfl
def hi30 : List Hint := [.keep [0, 1, 4], .keep [0, 1, 4, 9], .keep [4, 5], .keep [1, 4, 6, 7], .keep [1, 4, 6, 21], .keep [4, 5], .keep [4, 5]]
def ir30 : IFun := ⟨2, [.cell 4 (some 3), .tmp 5], (q (r [o (S 4) N (.new [(g ⟨#[]⟩), (g ⟨#[]⟩), (i U 0)]), o (S 5) N (m (c (b false)))] [0, 1, 4]) (q (q (r [o (S 8) N (m (t 0)), o (S 9) N (.eqq false .nilP (t 8) (c (.pointer none)))] [0, 1, 4, 9]) (k (t 9) (q (r [o (S 10) N (.build [(g ⟨#[]⟩), (g ⟨#[]⟩), (i U 0)] []), o N N (.st 3 (t 4) (t 10)), o (S 5) N (m (c (b false)))] [4, 5]) .ret) s)) (q (r [o (S 12) N (m (t 0)), o (S 13) N (.nck (t 12)), o (S 14) N (.fa 0 (t 13)), o (S 15) N (.ld1 (t 14)), o (S 16) N (m (t 1)), y (S 17) N (.fn 58) [(t 15), (t 16)], o (S 11) N (m (t 17)), o (S 18) N (.ext (t 11) 0), o (S 19) N (.ext (t 11) 1), o (S 6) N (.new [(g ⟨#[]⟩), (i U 0), (i U 0)]), o N N (.st 3 (t 6) (t 18)), o (S 7) N (m (t 19))] [1, 4, 6, 7]) (q (q (r [o (S 20) N (m (t 7)), o (S 21) N (.un .not (t 20))] [1, 4, 6, 21]) (k (t 21) (q (r [o (S 22) N (.build [(g ⟨#[]⟩), (g ⟨#[]⟩), (i U 0)] []), o N N (.st 3 (t 4) (t 22)), o (S 5) N (m (c (b false)))] [4, 5]) .ret) s)) (q (r [o (S 23) N (m (t 1)), o (S 24) N (.fa 0 (t 6)), o (S 25) N (.ld1 (t 24)), o (S 26) N (.fa 1 (t 6)), o (S 27) N (.ld1 (t 26)), o (S 28) N (.build [(g ⟨#[]⟩), (g ⟨#[]⟩), (i U 0)] [(0, 1, (t 23)), (1, 1, (t 25)), (2, 1, (t 27))]), o N N (.st 3 (t 4) (t 28)), o (S 5) N (m (c (b true)))] [4, 5]) .ret)))))⟩
theorem ok30 : compF Try.prog 30 hi30 = some ir30 := by kernel_rfl
def hi32 : List Hint := [.keep [0, 1], .keep [0, 1, 8], .keep [4], .keep [5], .keep [4]]
def ir32 : IFun := ⟨2, [.tmp 4], (q (r [o (S 4) N (m (c (i U 0)))] [0, 1]) (q (q (r [o (S 7) N (m (t 0)), o (S 8) N (.eqq false .nilP (t 7) (c (.pointer none)))] [0, 1, 8]) (k (t 8) (q (r [o (S 4) N (m (c (i U 0)))] [4]) .ret) s)) (q (r [o (S 10) N (m (t 0)), o (S 11) N (.nck (t 10)), o (S 12) N (.fa 0 (t 11)), o (S 13) N (.ld1 (t 12)), o (S 14) N (m (t 1)), y (S 15) N (.fn 58) [(t 13), (t 14)], o (S 9) N (m (t 15)), o (S 16) N (.ext (t 9) 0), o (S 17) N (.ext (t 9) 1), o (S 5) N (.new [(g ⟨#[]⟩), (i U 0), (i U 0)]), o N N (.st 3 (t 5) (t 16)), o (S 6) N (m (t 17))] [5]) (q (r [o (S 18) N (.fa 2 (t 5)), o (S 19) N (.ld1 (t 18)), o (S 4) N (m (t 19))] [4]) .ret))))⟩
theorem ok32 : compF Try.prog 32 hi32 = some ir32 := by kernel_rfl
def hi33 : List Hint := [.keep [0], .keep [2]]
def ir33 : IFun := ⟨1, [.tmp 2], (q (r [o (S 2) N (m (c (i I 0)))] [0]) (q (r [o (S 3) N (m (t 0)), o (S 4) N (.mm false (t 3) (c (i I 0))), o (S 5) N (.mm true (t 4) (c (i I 2147483647))), o (S 2) N (m (t 5))] [2]) .ret))⟩
theorem ok33 : compF Try.prog 33 hi33 = some ir33 := by kernel_rfl
def hi34 : List Hint := [.keep [], .keep [0]]
def ir34 : IFun := ⟨0, [.tmp 0], (q (r [o (S 0) N (m (c (.pointer none)))] []) (q (r [o (S 1) N (.build [(.slice none 0 0), (i I 0)] []), o (S 2) N (.box (t 1)), o (S 0) N (m (t 2))] [0]) .ret))⟩
theorem ok34 : compF Try.prog 34 hi34 = some ir34 := by kernel_rfl
def hi35 : List Hint := [.keep [0], .keep [0, 3], .keep [3, 8, 9, 10], .keep [3, 8, 9, 10], .keep [3, 8, 9, 10, 11], .keep [3, 5, 8, 9, 10], .keep [3, 5, 6, 8, 9, 10], .keep [3, 5, 6, 7, 8, 9, 10], .keep [3, 5, 6, 7, 8, 9, 10], .keep [3, 5, 6, 7, 8, 9, 10], .keep [3, 5, 6, 7, 8, 9, 10], .keep [3, 5, 6, 7, 8, 9, 10, 22], .keep [3, 5, 6, 7, 8, 9, 10], .keep [3, 5, 6, 7, 8, 9, 10], .keep [3, 5, 6, 7, 8, 9, 10], .keep [3, 8, 9, 10], .keep [3, 8, 9, 10], .keep [2]]
def ir35 : IFun := ⟨1, [.tmp 2], (q (r [o (S 2) N (m (c (g ⟨#[]⟩)))] [0]) (q (r [o (S 3) N (m (c (.slice none 0 0)))] [0, 3]) (q (q (r [o (S 8) N (m (t 0)), o (S 9) N (.lenV (t 8)), o (S 10) N (m (c (i I 0)))] [3, 8, 9, 10]) (.block 0 (.loop [3, 8, 9, 10] (q (r [o (S 11) N (.bin .lss (t 10) (t 9))] [3, 8, 9, 10, 11]) (q (k (t 11) .skip (.exit 0)) (q (.block 1 (q (r [o (S 12) N (.iaV 1 (t 8) (t 10)), o (S 13) N (.ld1 (t 12)), o (S 5) N (m (t 13))] [3, 5, 8, 9, 10]) (q (r [o (S 6) N (.new [(i B 0), (i B 0), (i B 0), (i B 0), (i B 0), (i B 0), (i B 0), (i B 0), (i B 0), (i B 0)])] [3, 5, 6, 8, 9, 10]) (q (r [o (S 7) N (m (c (i I 9)))] [3, 5, 6, 7, 8, 9, 10]) (q (r [o (S 14) N (m (t 7)), o (S 15) N (m (t 5)), o (S 16) N (.bin .and (t 15) (c (i U 127))), o (S 17) N (.cvI .u8 (t 16)), o (S 18) N (.iaA 10 1 (t 6) (t 14)), o N N (.st 1 (t 18) (t 17))] [3, 5, 6, 7, 8, 9, 10]) (q (q (r [o (S 19) N (m (t 5)), o (S 20) N (.bin .shr (t 19) (c (i U 7))), o (S 5) N (m (t 20))] [3, 5, 6, 7, 8, 9, 10]) (.block 2 (.loop [3, 5, 6, 7, 8, 9, 10] (q (q (r [o (S 21) N (m (t 5)), o (S 22) N (.bin .gtr (t 21) (c (i U 0)))] [3, 5, 6, 7, 8, 9, 10, 22]) (k (t 22) .skip (.exit 2))) (q (.block 3 (q (r [o (S 25) N (m (t 7)), o (S 26) N (.bin .sub (t 25) (c (i I 1))), o (S 7) N (m (t 26))] [3, 5, 6, 7, 8, 9, 10]) (r [o (S 27) N (m (t 7)), o (S 28) N (m (t 5)), o (S 29) N (.bin .and (t 28) (c (i U 127))), o (S 30) N (.cvI .u8 (t 29)), o (S 31) N (.bin .or (t 30) (c (i B 128))), o (S 32) N (.iaA 10 1 (t 6) (t 27)), o N N (.st 1 (t 32) (t 31))] [3, 5, 6, 7, 8, 9, 10]))) (r [o (S 23) N (m (t 5)), o (S 24) N (.bin .shr (t 23) (c (i U 7))), o (S 5) N (m (t 24))] [3, 5, 6, 7, 8, 9, 10])))))) (r [o (S 33) N (m (t 3)), o (S 34) N (m (t 7)), o (S 35) N (.slA 10 1 (t 6) (S (t 34)) none none), o (S 36) N (.app 1 1 (t 33) (t 35)), o (S 3) N (m (t 36))] [3, 8, 9, 10]))))))) (r [o (S 37) N (.bin .add (t 10) (c (i I 1))), o (S 10) N (m (t 37))] [3, 8, 9, 10]))))))) (q (r [o (S 38) N (m (t 3)), o (S 39) N (.cvB (t 38)), o (S 2) N (m (t 39))] [2]) .ret))))⟩
theorem ok35 : compF Try.prog 35 hi35 = some ir35 := by kernel_rfl
def hi36 : List Hint := [.keep [0], .keep [0, 4], .keep [2], .keep [2]]
def ir36 : IFun := ⟨1, [.tmp 2], (q (r [o (S 2) N (m (c (i I 0)))] [0]) (q (q (r [o (S 3) N (m (t 0)), o (S 4) N (.eqq false .nilP (t 3) (c (.pointer none)))] [0, 4]) (k (t 4) (q (r [o (S 2) N (m (c (i I 0)))] [2]) .ret) s)) (q (r [o (S 5) N (m (t 0)), o (S 6) N (.nck (t 5)), o (S 7) N (.fa 1 (t 6)), o (S 8) N (.ld1 (t 7)), o (S 2) N (m (t 8))] [2]) .ret)))⟩
theorem ok36 : compF Try.prog 36 hi36 = some ir36 := by kernel_rfl
def hi37 : List Hint := [.keep [0, 1, 2, 3], .keep [0, 2, 3, 9, 10], .keep [0, 2, 3, 9, 10, 12], .keep [0, 2, 3, 9, 10, 12], .keep [0, 2, 3, 9, 10, 12, 32], .keep [0, 2, 3, 9, 12, 43, 44, 45], .keep [0, 2, 3, 9, 12, 43, 44, 45], .keep [0, 2, 3, 9, 12, 43, 44, 45, 46], .keep [0, 2, 3, 9, 12, 14, 43, 44, 45], .keep [0, 2, 3, 9, 12, 14, 43, 44, 45, 62], .keep [8], .keep [0, 2, 3, 9, 12, 43, 44, 45], .keep [0, 2, 3, 9, 12, 43, 44, 45], .keep [0, 2, 3, 9, 10, 12], .keep [0, 2, 3, 9, 10, 12], .keep [8]]
def ir37 : IFun := ⟨4, [.tmp 8], (q (r [o (S 8) N (m (c (.slice none 0 0)))] [0, 1, 2, 3]) (q (r [o (S 16) N (m (t 0)), o (S 17) N (m (t 1)), y (S 18) N (.fn 59) [(t 16), (t 17)], o (S 15) N (m (t 18)), o (S 19) N (.ext (t 15) 0), o (S 20) N (.ext (t 15) 1), o (S 21) N (.ext (t 15) 2), o (S 9) N (m (t 19)), o (S 10) N (m (t 20)), o (S 11) N (m (t 21))] [0, 2, 3, 9, 10]) (q (r [o (S 12) N (m (c (.slice none 0 0)))] [0, 2, 3, 9, 10, 12]) (q (.block 0 (.loop [0, 2, 3, 9, 10, 12] (q (q (r [o (S 22) N (m (t 0)), o (S 23) N (.eqq true .nilP (t 22) (c (.pointer none))), o (S 24) N (m (t 23)), o (S 25) (S (24, true)) (m (t 9)), o (S 26) (S (24, true)) (m (t 0)), o (S 27) (S (24, true)) (.nck (t 26)), o (S 28) (S (24, true)) (.fa 0 (t 27)), o (S 29) (S (24, true)) (.ld1 (t 28)), o (S 30) (S (24, true)) (.lenV (t 29)), o (S 31) (S (24, true)) (.bin .lss (t 25) (t 30)), o (S 32) N (.pick (t 24) (t 31) (c (b false)))] [0, 2, 3, 9, 10, 12, 32]) (k (t 32) .skip (.exit 0))) (q (.block 1 (q (q (r [o (S 35) N (m (t 0)), o (S 36) N (.nck (t 35)), o (S 37) N (.fa 0 (t 36)), o (S 38) N (.ld1 (t 37)), o (S 39) N (m (t 9)), o (S 40) N (.iaV 1 (t 38) (t 39)), o (S 41) N (.ld1 (t 40)), o (S 42) N (m (t 10)), o (S 43) N (.slV 4 (t 41) (S (t 42)) none none), o (S 44) N (.lenV (t 43)), o (S 45) N (m (c (i I 0)))] [0, 2, 3, 9, 12, 43, 44, 45]) (.block 2 (.loop [0, 2, 3, 9, 12, 43, 44, 45] (q (r [o (S 46) N (.bin .lss (t 45) (t 44))] [0, 2, 3, 9, 12, 43, 44, 45, 46]) (q (k (t 46) .skip (.exit 2)) (q (.block 3 (q (r [o (S 47) N (.iaV 4 (t 43) (t 45)), o (S 48) N (.ldN 4 (t 47)), o (S 14) N (.new [(g ⟨#[]⟩), (g ⟨#[]⟩), (i U 0), (i U 0)]), o N N (.st 4 (t 14) (t 48))] [0, 2, 3, 9, 12, 14, 43, 44, 45]) (q (q (r [o (S 49) N (m (t 12)), o (S 50) N (.lenV (t 49)), o (S 51) N (m (t 3)), o (S 52) N (.bin .geq (t 50) (t 51)), o (S 53) N (m (t 52)), o (S 54) (S (53, false)) (m (t 2)), o (S 55) (S (53, false)) (.bin .neq (t 54) (c (g ⟨#[]⟩))), o (S 56) (S (53, false)) (m (t 55)), o (S 57) (S (56, true)) (.fa 0 (t 14)), o (S 58) (S (56, true)) (.ld1 (t 57)), o (S 59) (S (56, true)) (m (t 2)), o (S 60) (S (56, true)) (.bin .geq (t 58) (t 59)), o (S 61) (S (53, false)) (.pick (t 56) (t 60) (c (b false))), o (S 62) N (.pick (t 53) (c (b true)) (t 61))] [0, 2, 3, 9, 12, 14, 43, 44, 45, 62]) (k (t 62) (q (r [o (S 63) N (m (t 12)), o (S 8) N (m (t 63))] [8]) .ret) s)) (r [o (S 64) N (m (t 12)), o (S 65) N (.ldN 4 (t 14)), o (S 66) N (.bsl 4 1 [(g ⟨#[]⟩), (g ⟨#[]⟩), (i U 0), (i U 0)] [(0, 4, (t 65))]), o (S 67) N (.app 4 48 (t 64) (t 66)), o (S 12) N (m (t 67))] [0, 2, 3, 9, 12, 43, 44, 45])))) (r [o (S 68) N (.bin .add (t 45) (c (i I 1))), o (S 45) N (m (t 68))] [0, 2, 3, 9, 12, 43, 44, 45]))))))) (r [o (S 10) N (m (c (i I 0)))] [0, 2, 3, 9, 10, 12]))) (r [o (S 33) N (m (t 9)), o (S 34) N (.bin .add (t 33) (c (i I 1))), o (S 9) N (m (t 34))] [0, 2, 3, 9, 10, 12]))))) (q (r [o (S 69) N (m (t 12)), o (S 8) N (m (t 69))] [8]) .ret)))))⟩
theorem ok37 : compF Try.prog 37 hi37 = some ir37 := by kernel_rfl
def hi38 : List Hint := [.keep [0], .keep [0, 3], .keep [3, 6, 7, 8], .keep [3, 6, 7, 8], .keep [3, 6, 7, 8, 9], .keep [3, 5, 6, 7, 8], .keep [3, 6, 7, 8], .keep [3, 6, 7, 8], .keep [2]]
def ir38 : IFun := ⟨1, [.tmp 2], (q (r [o (S 2) N (m (c (g ⟨#[]⟩)))] [0]) (q (r [o (S 3) N (m (c (g ⟨#[]⟩)))] [0, 3]) (q (q (r [o (S 6) N (m (t 0)), o (S 7) N (.lenV (t 6)), o (S 8) N (m (c (i I 0)))] [3, 6, 7, 8]) (.block 0 (.loop [3, 6, 7, 8] (q (r [o (S 9) N (.bin .lss (t 8) (t 7))] [3, 6, 7, 8, 9]) (q (k (t 9) .skip (.exit 0)) (q (.block 1 (q (r [o (S 10) N (.iaV 1 (t 6) (t 8)), o (S 11) N (.ld1 (t 10)), o (S 5) N (m (t 11))] [3, 5, 6, 7, 8]) (r [o (S 12) N (m (t 3)), o (S 13) N (m (t 5)), o (S 14) N (.lenS (t 13)), o (S 15) N (.cvI .u64 (t 14)), o (S 16) N (.bsl 1 1 [(i U 0)] [(0, 1, (t 15))]), y (S 17) N (.fn 35) [(t 16)], o (S 18) N (m (t 5)), o (S 19) N (.bin .add (t 17) (t 18)), o (S 20) N (.bin .add (t 12) (t 19)), o (S 3) N (m (t 20))] [3, 6, 7, 8]))) (r [o (S 21) N (.bin .add (t 8) (c (i I 1))), o (S 8) N (m (t 21))] [3, 6, 7, 8]))))))) (q (r [o (S 22) N (m (t 3)), o (S 2) N (m (t 22))] [2]) .ret))))⟩
theorem ok38 : compF Try.prog 38 hi38 = some ir38 := by kernel_rfl
def hi46 : List Hint := [.keep [0], .keep [0, 3], .keep [0, 3, 4], .keep [0, 3, 4], .keep [0, 3, 4, 8], .keep [0, 3, 4], .keep [0, 3, 4], .keep [2]]
def ir46 : IFun := ⟨1, [.tmp 2], (q (r [o (S 2) N (m (c (g ⟨#[]⟩)))] [0]) (q (r [o (S 3) N (m (c (g ⟨#[]⟩)))] [0, 3]) (q (q (r [o (S 4) N (m (c (i I 0)))] [0, 3, 4]) (.block 0 (.loop [0, 3, 4] (q (q (r [o (S 5) N (m (t 4)), o (S 6) N (m (t 0)), o (S 7) N (.lenV (t 6)), o (S 8) N (.bin .lss (t 5) (t 7))] [0, 3, 4, 8]) (k (t 8) .skip (.exit 0))) (q (.block 1 (r [o (S 11) N (m (t 3)), o (S 12) N (m (t 0)), o (S 13) N (m (t 4)), o (S 14) N (.iaV 1 (t 12) (t 13)), o (S 15) N (.ld1 (t 14)), y (S 16) N (.fn 61) [(t 15)], o (S 17) N (.bin .add (t 11) (t 16)), o (S 3) N (m (t 17))] [0, 3, 4])) (r [o (S 9) N (m (t 4)), o (S 10) N (.bin .add (t 9) (c (i I 1))), o (S 4) N (m (t 10))] [0, 3, 4])))))) (q (r [o (S 18) N (m (t 3)), o (S 2) N (m (t 18))] [2]) .ret))))⟩
theorem ok46 : compF Try.prog 46 hi46 = some ir46 := by kernel_rfl
def hi47 : List Hint := [.keep [0], .keep [0, 3], .keep [0, 3, 4], .keep [0, 3, 4], .keep [0, 3, 4, 8], .draw [.op 0, .op 1, .op 2, .op 3, .op 4, .op 5, .op 6, .op 9, .op 10, .op 11, .op 12, .op 7, .chk 12, .op 8, .op 13, .op 14] [0, 3, 4], .keep [0, 3, 4], .keep [2]]
def ir47 : IFun := ⟨1, [.tmp 2], (q (r [o (S 2) N (m (c (g ⟨#[]⟩)))] [0]) (q (r [o (S 3) N (m (c (g ⟨#[]⟩)))] [0, 3]) (q (q (r [o (S 4) N (m (c (i I 0)))] [0, 3, 4]) (.block 0 (.loop [0, 3, 4] (q (q (r [o (S 5) N (m (t 4)), o (S 6) N (m (t 0)), o (S 7) N (.lenV (t 6)), o (S 8) N (.bin .lss (t 5) (t 7))] [0, 3, 4, 8]) (k (t 8) .skip (.exit 0))) (q (.block 1 (.draw 15 [o (S 11) N (m (t 3)), o (S 12) N (m (t 0)), o (S 13) N (m (t 4)), o (S 14) N (.iaV 1 (t 12) (t 13)), o (S 15) N (.ld1 (t 14)), o (S 16) N (.lenS (t 15)), o (S 17) N (.cvI .u64 (t 16)), o (S 20) N (m (t 0)), o (S 21) N (m (t 4)), o (S 22) N (.iaV 1 (t 20) (t 21)), o (S 23) N (.ld1 (t 22)), y (S 18) N (.fn 61) [(t 17)], .chk 23 none (.ld1 (t 22)), o (S 19) N (.bin .add (t 11) (t 18)), o (S 24) N (.bin .add (t 19) (t 23)), o (S 3) N (m (t 24))] [0, 3, 4])) (r [o (S 9) N (m (t 4)), o (S 10) N (.bin .add (t 9) (c (i I 1))), o (S 4) N (m (t 10))] [0, 3, 4])))))) (q (r [o (S 25) N (m (t 3)), o (S 2) N (m (t 25))] [2]) .ret))))⟩
theorem ok47 : compF Try.prog 47 hi47 = some ir47 := by kernel_rfl
def hi48 : List Hint := [.keep [0, 1], .keep [0, 1, 3, 4, 5], .keep [0, 3, 4], .keep [3], .keep [2]]
def ir48 : IFun := ⟨2, [.tmp 2], (q (r [o (S 2) N (m (c (i U 0)))] [0, 1]) (q (r [o (S 7) N (.ld1 (t 0)), y (S 8) N (.fn 49) [(t 7)], o (S 6) N (m (t 8)), o (S 9) N (.ext (t 6) 0), o (S 10) N (.ext (t 6) 1), o (S 11) N (.ext (t 6) 2), o (S 3) N (m (t 9)), o (S 4) N (m (t 10)), o (S 5) N (m (t 11))] [0, 1, 3, 4, 5]) (q (r [o (S 12) N (.ld1 (t 1)), o (S 13) N (m (t 12)), o (S 14) (S (13, true)) (m (t 5)), o (S 15) N (.pick (t 13) (t 14) (c (b false))), o N N (.st 1 (t 1) (t 15))] [0, 3, 4]) (q (r [o (S 16) N (.ld1 (t 0)), o (S 17) N (m (t 4)), o (S 18) N (.slS (t 16) (S (t 17)) none), o N N (.st 1 (t 0) (t 18))] [3]) (q (r [o (S 19) N (m (t 3)), o (S 2) N (m (t 19))] [2]) .ret)))))⟩
theorem ok48 : compF Try.prog 48 hi48 = some ir48 := by kernel_rfl
def hi49 : List Hint := [.keep [0, 2, 3], .keep [0, 2, 3], .keep [0, 2, 3, 13], .keep [0, 2, 3, 5], .keep [0, 2, 3, 5, 27], .keep [0, 2, 3, 5], .keep [0, 2, 3, 5], .keep [0, 2, 3, 38], .keep [2, 3, 4], .keep [2, 3, 4]]
def ir49 : IFun := ⟨1, [.tmp 2, .tmp 3, .tmp 4], (q (r [o (S 2) N (m (c (i U 0))), o (S 3) N (m (c (i I 0))), o (S 4) N (m (c (b false)))] [0, 2, 3]) (q (.block 0 (.loop [0, 2, 3] (q (q (r [o (S 6) N (m (t 3)), o (S 7) N (m (t 0)), o (S 8) N (.lenS (t 7)), o (S 9) N (.bin .lss (t 6) (t 8)), o (S 10) N (m (t 9)), o (S 11) (S (10, true)) (m (t 3)), o (S 12) (S (10, true)) (.bin .lss (t 11) (c (i I 10))), o (S 13) N (.pick (t 10) (t 12) (c (b false)))] [0, 2, 3, 13]) (k (t 13) .skip (.exit 0))) (.block 1 (q (r [o (S 14) N (m (t 0)), o (S 15) N (m (t 3)), o (S 16) N (.ixS (t 14) (t 15)), o (S 5) N (m (t 16))] [0, 2, 3, 5]) (q (q (r [o (S 17) N (m (t 3)), o (S 18) N (.bin .eql (t 17) (c (i I 0))), o (S 19) N (m (t 18)), o (S 20) (S (19, true)) (m (t 5)), o (S 21) (S (19, true)) (.bin .eql (t 20) (c (i B 128))), o (S 22) N (.pick (t 19) (t 21) (c (b false))), o (S 23) N (m (t 22)), o (S 24) (S (23, false)) (m (t 2)), o (S 25) (S (23, false)) (.bin .shr (t 24) (c (i U 57))), o (S 26) (S (23, false)) (.bin .gtr (t 25) (c (i U 0))), o (S 27) N (.pick (t 23) (c (b true)) (t 26))] [0, 2, 3, 5, 27]) (k (t 27) (.exit 0) s)) (q (r [o (S 28) N (m (t 2)), o (S 29) N (.bin .shl (t 28) (c (i U 7))), o (S 30) N (m (t 5)), o (S 31) N (.bin .and (t 30) (c (i B 127))), o (S 32) N (.cvI .u64 (t 31)), o (S 33) N (.bin .or (t 29) (t 32)), o (S 2) N (m (t 33))] [0, 2, 3, 5]) (q (r [o (S 34) N (m (t 3)), o (S 35) N (.bin .add (t 34) (c (i I 1))), o (S 3) N (m (t 35))] [0, 2, 3, 5]) (q (r [o (S 36) N (m (t 5)), o (S 37) N (.bin .and (t 36) (c (i B 128))), o (S 38) N (.bin .eql (t 37) (c (i B 0)))] [0, 2, 3, 38]) (k (t 38) (q (r [o (S 39) N (m (t 2)), o (S 40) N (m (t 3)), o (S 2) N (m (t 39)), o (S 3) N (m (t 40)), o (S 4) N (m (c (b true)))] [2, 3, 4]) .ret) s)))))))))) (q (r [o (S 2) N (m (c (i U 0))), o (S 3) N (m (c (i I 0))), o (S 4) N (m (c (b false)))] [2, 3, 4]) .ret)))⟩
theorem ok49 : compF Try.prog 49 hi49 = some ir49 := by kernel_rfl
def hi50 : List Hint := [.keep [0, 1], .keep [0, 1, 3, 4, 5], .keep [0, 3, 4], .keep [3], .keep [2]]
def ir50 : IFun := ⟨2, [.tmp 2], (q (r [o (S 2) N (m (c (g ⟨#[]⟩)))] [0, 1]) (q (r [o (S 7) N (.ld1 (t 0)), y (S 8) N (.fn 51) [(t 7)], o (S 6) N (m (t 8)), o (S 9) N (.ext (t 6) 0), o (S 10) N (.ext (t 6) 1), o (S 11) N (.ext (t 6) 2), o (S 3) N (m (t 9)), o (S 4) N (m (t 10)), o (S 5) N (m (t 11))] [0, 1, 3, 4, 5]) (q (r [o (S 12) N (.ld1 (t 1)), o (S 13) N (m (t 12)), o (S 14) (S (13, true)) (m (t 5)), o (S 15) N (.pick (t 13) (t 14) (c (b false))), o N N (.st 1 (t 1) (t 15))] [0, 3, 4]) (q (r [o (S 16) N (.ld1 (t 0)), o (S 17) N (m (t 4)), o (S 18) N (.slS (t 16) (S (t 17)) none), o N N (.st 1 (t 0) (t 18))] [3]) (q (r [o (S 19) N (m (t 3)), o (S 2) N (m (t 19))] [2]) .ret)))))⟩
theorem ok50 : compF Try.prog 50 hi50 = some ir50 := by kernel_rfl
def hi51 : List Hint := [.keep [0], .keep [0, 4, 5, 6], .keep [0, 5, 6, 23], .keep [2, 3, 4], .keep [2, 3, 4]]
def ir51 : IFun := ⟨1, [.tmp 2, .tmp 3, .tmp 4], (q (r [o (S 2) N (m (c (g ⟨#[]⟩))), o (S 3) N (m (c (i I 0))), o (S 4) N (m (c (b false)))] [0]) (q (r [o (S 8) N (m (t 0)), y (S 9) N (.fn 49) [(t 8)], o (S 7) N (m (t 9)), o (S 10) N (.ext (t 7) 0), o (S 11) N (.ext (t 7) 1), o (S 12) N (.ext (t 7) 2), o (S 5) N (m (t 10)), o (S 6) N (m (t 11)), o (S 4) N (m (t 12))] [0, 4, 5, 6]) (q (q (r [o (S 13) N (m (t 4)), o (S 14) N (.un .not (t 13)), o (S 15) N (m (t 14)), o (S 16) (S (15, false)) (m (t 5)), o (S 17) (S (15, false)) (m (t 0)), o (S 18) (S (15, false)) (.lenS (t 17)), o (S 19) (S (15, false)) (m (t 6)), o (S 20) (S (15, false)) (.bin .sub (t 18) (t 19)), o (S 21) (S (15, false)) (.cvI .u64 (t 20)), o (S 22) (S (15, false)) (.bin .gtr (t 16) (t 21)), o (S 23) N (.pick (t 15) (c (b true)) (t 22))] [0, 5, 6, 23]) (k (t 23) (q (r [o (S 2) N (m (c (g ⟨#[]⟩))), o (S 3) N (m (c (i I 0))), o (S 4) N (m (c (b false)))] [2, 3, 4]) .ret) s)) (q (r [o (S 24) N (m (t 0)), o (S 25) N (m (t 6)), o (S 26) N (m (t 6)), o (S 27) N (m (t 5)), o (S 28) N (.cvI .i64 (t 27)), o (S 29) N (.bin .add (t 26) (t 28)), o (S 30) N (.slS (t 24) (S (t 25)) (S (t 29))), o (S 31) N (m (t 6)), o (S 32) N (m (t 5)), o (S 33) N (.cvI .i64 (t 32)), o (S 34) N (.bin .add (t 31) (t 33)), o (S 2) N (m (t 30)), o (S 3) N (m (t 34)), o (S 4) N (m (c (b true)))] [2, 3, 4]) .ret))))⟩
theorem ok51 : compF Try.prog 51 hi51 = some ir51 := by kernel_rfl
def hi52 : List Hint := [.keep [0], .keep [0, 5], .keep [0, 5, 6], .keep [0, 5, 6], .keep [0, 5, 6, 14], .keep [0, 5, 6], .keep [0, 5, 6, 28], .draw [.op 0, .op 2, .op 3, .op 4, .op 5, .op 1, .op 6] [5, 6, 35], .keep [2, 3, 4], .keep [2, 3, 4], .keep [0, 5, 6], .keep [2, 3, 4]]
def ir52 : IFun := ⟨1, [.tmp 2, .tmp 3, .tmp 4], (q (r [o (S 2) N (m (c (i U 0))), o (S 3) N (m (c (i I 0))), o (S 4) N (m (c (b false)))] [0]) (q (r [o (S 5) N (m (c (i U 0)))] [0, 5]) (q (q (r [o (S 6) N (m (c (i I 0)))] [0, 5, 6]) (.block 0 (.loop [0, 5, 6] (q (q (r [o (S 7) N (m (t 6)), o (S 8) N (m (t 0)), o (S 9) N (.lenS (t 8)), o (S 10) N (.bin .lss (t 7) (t 9)), o (S 11) N (m (t 10)), o (S 12) (S (11, true)) (m (t 6)), o (S 13) (S (11, true)) (.bin .lss (t 12) (c (i I 10))), o (S 14) N (.pick (t 11) (t 13) (c (b false)))] [0, 5, 6, 14]) (k (t 14) .skip (.exit 0))) (q (.block 1 (q (r [o (S 17) N (m (t 5)), o (S 18) N (.bin .mul (c (i U 128)) (t 17)), o (S 19) N (m (t 0)), o (S 20) N (m (t 6)), o (S 21) N (.ixS (t 19) (t 20)), o (S 22) N (.bin .rem (t 21) (c (i B 128))), o (S 23) N (.cvI .u64 (t 22)), o (S 24) N (.bin .add (t 18) (t 23)), o (S 5) N (m (t 24))] [0, 5, 6]) (q (r [o (S 25) N (m (t 0)), o (S 26) N (m (t 6)), o (S 27) N (.ixS (t 25) (t 26)), o (S 28) N (.bin .lss (t 27) (c (i B 128)))] [0, 5, 6, 28]) (k (t 28) (q (q (.draw 7 [o (S 29) N (m (t 5)), o (S 31) N (m (t 0)), o (S 32) N (m (t 6)), o (S 33) N (.bin .add (t 32) (c (i I 1))), o (S 34) N (.slS (t 31) N (some (t 33))), y (S 30) N (.fn 61) [(t 29)], o (S 35) N (.bin .neq (t 30) (t 34))] [5, 6, 35]) (k (t 35) (q (r [o (S 2) N (m (c (i U 0))), o (S 3) N (m (c (i I 0))), o (S 4) N (m (c (b false)))] [2, 3, 4]) .ret) s)) (q (r [o (S 36) N (m (t 5)), o (S 37) N (m (t 6)), o (S 38) N (.bin .add (t 37) (c (i I 1))), o (S 2) N (m (t 36)), o (S 3) N (m (t 38)), o (S 4) N (m (c (b true)))] [2, 3, 4]) .ret)) s)))) (r [o (S 15) N (m (t 6)), o (S 16) N (.bin .add (t 15) (c (i I 1))), o (S 6) N (m (t 16))] [0, 5, 6])))))) (q (r [o (S 2) N (m (c (i U 0))), o (S 3) N (m (c (i I 0))), o (S 4) N (m (c (b false)))] [2, 3, 4]) .ret))))⟩
theorem ok52 : compF Try.prog 52 hi52 = some ir52 := by kernel_rfl
end Go.Proofs.Ytkfjlbdedjoojaa.IrAll
namespace Go.Proofs.Ytkfjlbdedjoojaa.IrAll
open Go Go.Proofs.Ytkfjlbdedjoojaa.Am
open Go.Operand renaming tmp → t, const → c
open Go.Value renaming int → i, string → g, bool → b
open Go.IntKind renaming i64 → I, u64 → U, u8 → B
open Option renaming some → S, none → N
open Go.Proofs.Ytkfjlbdedjoojaa.Am.Step renaming op → o, call → y
open Go.Proofs.Ytkfjlbdedjoojaa.Am.IOp renaming mov → m
open Go.Proofs.Ytkfjlbdedjoojaa.Am.IC renaming seq → q, cond → k, run → r, skip → s
def hi53 : List Hint := [.keep [0], .keep [0, 5, 6, 7], .keep [0, 5, 6, 31], .keep [2, 3, 4], .keep [2, 3, 4]]
def ir53 : IFun := ⟨1, [.tmp 2, .tmp 3, .tmp 4], (q (r [o (S 2) N (m (c (g ⟨#[]⟩))), o (S 3) N (m (c (i I 0))), o (S 4) N (m (c (b false)))] [0]) (q (r [o (S 9) N (m (t 0)), y (S 10) N (.fn 52) [(t 9)], o (S 8) N (m (t 10)), o (S 11) N (.ext (t 8) 0), o (S 12) N (.ext (t 8) 1), o (S 13) N (.ext (t 8) 2), o (S 5) N (m (t 11)), o (S 6) N (m (t 12)), o (S 7) N (m (t 13))] [0, 5, 6, 7]) (q (q (r [o (S 14) N (m (t 7)), o (S 15) N (.un .not (t 14)), o (S 16) N (m (t 15)), o (S 17) (S (16, false)) (m (t 5)), o (S 18) (S (16, false)) (m (t 0)), o (S 19) (S (16, false)) (.lenS (t 18)), o (S 20) (S (16, false)) (.cvI .u64 (t 19)), o (S 21) (S (16, false)) (.bin .gtr (t 17) (t 20)), o (S 22) N (.pick (t 16) (c (b true)) (t 21)), o (S 23) N (m (t 22)), o (S 24) (S (23, false)) (m (t 6)), o (S 25) (S (23, false)) (m (t 5)), o (S 26) (S (23, false)) (.cvI .i64 (t 25)), o (S 27) (S (23, false)) (.bin .add (t 24) (t 26)), o (S 28) (S (23, false)) (m (t 0)), o (S 29) (S (23, false)) (.lenS (t 28)), o (S 30) (S (23, false)) (.bin .gtr (t 27) (t 29)), o (S 31) N (.pick (t 23) (c (b true)) (t 30))] [0, 5, 6, 31]) (k (t 31) (q (r [o (S 2) N (m (c (g ⟨#[]⟩))), o (S 3) N (m (c (i I 0))), o (S 4) N (m (c (b false)))] [2, 3, 4]) .ret) s)) (q (r [o (S 32) N (m (t 0)), o (S 33) N (m (t 6)), o (S 34) N (m (t 6)), o (S 35) N (m (t 5)), o (S 36) N (.cvI .i64 (t 35)), o (S 37) N (.bin .add (t 34) (t 36)), o (S 38) N (.slS (t 32) (S (t 33)) (S (t 37))), o (S 39) N (m (t 6)), o (S 40) N (m (t 5)), o (S 41) N (.cvI .i64 (t 40)), o (S 42) N (.bin .add (t 39) (t 41)), o (S 2) N (m (t 38)), o (S 3) N (m (t 42)), o (S 4) N (m (c (b true)))] [2, 3, 4]) .ret))))⟩
theorem ok53 : compF Try.prog 53 hi53 = some ir53 := by kernel_rfl
def hi55 : List Hint := [.keep [0, 1, 2], .keep [1, 2, 8, 9], .keep [1, 2, 8, 19], .draw [.op 0, .op 1, .op 2, .op 3, .op 4, .op 5, .op 6, .op 7] [6, 7], .keep [6, 7]]
def ir55 : IFun := ⟨3, [.tmp 6, .tmp 7], (q (r [o (S 6) N (m (c (i I 0))), o (S 7) N (m (c (i I 0)))] [0, 1, 2]) (q (q (r [o (S 11) N (m (t 0)), o (S 12) N (.nck (t 11)), o (S 13) N (.fa 0 (t 12)), o (S 14) N (.ld1 (t 13)), o (S 15) N (m (t 1)), y (S 16) N (.fn 58) [(t 14), (t 15)], o (S 10) N (m (t 16)), o (S 17) N (.ext (t 10) 0), o (S 18) N (.ext (t 10) 1), o (S 8) N (.new [(g ⟨#[]⟩), (i U 0), (i U 0)]), o N N (.st 3 (t 8) (t 17)), o (S 9) N (m (t 18))] [1, 2, 8, 9]) (q (r [o (S 19) N (m (t 9))] [1, 2, 8, 19]) (k (t 19) (q (.draw 8 [o (S 20) N (m (t 2)), o (S 21) N (.lenS (t 20)), o (S 22) N (.fa 0 (t 8)), o (S 23) N (.ld1 (t 22)), o (S 24) N (.lenS (t 23)), o (S 25) N (.bin .sub (t 21) (t 24)), o (S 6) N (m (c (i I 0))), o (S 7) N (m (t 25))] [6, 7]) .ret) s))) (q (r [o (S 26) N (m (t 1)), o (S 27) N (.lenS (t 26)), o (S 28) N (m (t 2)), o (S 29) N (.lenS (t 28)), o (S 30) N (.bin .add (t 27) (t 29)), o (S 6) N (m (c (i I 1))), o (S 7) N (m (t 30))] [6, 7]) .ret)))⟩
theorem ok55 : compF Try.prog 55 hi55 = some ir55 := by kernel_rfl
def hi56 : List Hint := [.keep [0, 1, 5, 6], .keep [0, 1, 5, 6, 14], .keep [6, 7], .keep [0, 1, 5, 6, 8, 9, 10], .keep [0, 1, 5, 6, 8, 9, 23], .draw [.op 0, .op 1, .op 2, .op 3, .op 4, .op 5, .op 6, .op 7, .op 8, .op 9, .op 10, .op 11, .op 12, .op 13, .op 14, .op 15, .op 16, .op 17, .op 18, .op 19, .op 20, .chk 3, .chk 6, .chk 19, .op 21, .op 22, .op 23] [6], .keep [6, 7], .keep [0, 1, 5, 6, 8, 9], .keep [0, 1, 5, 6, 8, 9, 59], .keep [6], .keep [6, 7], .draw [.op 0, .op 1, .op 2, .op 3, .op 4, .op 5, .op 6, .op 7, .op 8, .op 9, .op 10, .opA 11, .op 12, .op 13] [0, 6, 8, 11], .keep [0, 6, 8, 11], .keep [0, 6, 8, 11, 91], .keep [0, 6, 8, 11, 12], .draw [.op 0, .op 1, .op 2, .op 3, .op 4, .op 5, .op 6, .op 7, .op 8, .op 9, .op 10, .chk 4, .opA 11, .op 12, .op 13, .op 14, .op 15] [0, 6, 8, 11, 12], .draw [.op 0, .op 1, .op 2, .op 3, .op 4, .op 5, .op 6, .op 7, .op 8, .chk 3, .op 9, .op 10] [6], .keep [6, 7]]
def ir56 : IFun := ⟨3, [.cell 6 (some 3), .tmp 7], (q (r [o (S 5) N (.box (t 2)), o (S 6) N (.new [(g ⟨#[]⟩), (i U 0), (i U 0)]), o (S 7) N (m (c (b false)))] [0, 1, 5, 6]) (q (q (r [o (S 13) N (m (t 0)), o (S 14) N (.eqq false .nilP (t 13) (c (.pointer none)))] [0, 1, 5, 6, 14]) (k (t 14) (q (r [o (S 15) N (.build [(g ⟨#[]⟩), (i U 0), (i U 0)] []), o N N (.st 3 (t 6) (t 15)), o (S 7) N (m (c (b false)))] [6, 7]) .ret) s)) (q (r [o (S 17) N (m (t 0)), o (S 18) N (m (t 1)), y (S 19) N (.fn 59) [(t 17), (t 18)], o (S 16) N (m (t 19)), o (S 20) N (.ext (t 16) 0), o (S 21) N (.ext (t 16) 1), o (S 22) N (.ext (t 16) 2), o (S 8) N (m (t 20)), o (S 9) N (m (t 21)), o (S 10) N (m (t 22))] [0, 1, 5, 6, 8, 9, 10]) (q (q (r [o (S 23) N (m (t 10))] [0, 1, 5, 6, 8, 9, 23]) (k (t 23) (q (.draw 24 [o (S 24) N (m (t 0)), o (S 25) N (.nck (t 24)), o (S 26) N (.fa 0 (t 25)), o (S 27) N (.ld1 (t 26)), o (S 28) N (m (t 8)), o (S 29) N (.iaV 1 (t 27) (t 28)), o (S 30) N (.ld1 (t 29)), o (S 31) N (m (t 9)), o (S 32) N (m (t 0)), o (S 33) N (.nck (t 32)), o (S 34) N (.fa 0 (t 33)), o (S 35) N (.ld1 (t 34)), o (S 36) N (m (t 8)), o (S 37) N (.iaV 1 (t 35) (t 36)), o (S 38) N (.ld1 (t 37)), o (S 39) N (m (t 9)), o (S 40) N (.iaV 4 (t 38) (t 39)), o (S 41) N (.fa 1 (t 40)), o (S 42) N (.ldN 3 (t 41)), o (S 43) N (.ldN 3 (t 5)), o N N (.st 3 (t 6) (t 42)), .chk 27 none (.ld1 (t 26)), .chk 30 none (.ld1 (t 29)), .chk 43 none (.ldN 3 (t 5)), o (S 44) N (.iaV 4 (t 30) (t 31)), o (S 45) N (.fa 1 (t 44)), o N N (.st 3 (t 45) (t 43))] [6]) (q (r [o (S 46) N (.ldN 3 (t 6)), o N N (.st 3 (t 6) (t 46)), o (S 7) N (m (c (b true)))] [6, 7]) .ret)) s)) (q (r [o (S 47) N (m (t 0)), o (S 48) N (.nck (t 47)), o (S 49) N (.fa 1 (t 48)), o (S 50) N (.ld1 (t 49)), o (S 51) N (.bin .add (t 50) (c (i I 1))), o (S 52) N (.nck (t 47)), o (S 53) N (.fa 1 (t 52)), o N N (.st 1 (t 53) (t 51))] [0, 1, 5, 6, 8, 9]) (q (q (r [o (S 54) N (m (t 0)), o (S 55) N (.nck (t 54)), o (S 56) N (.fa 0 (t 55)), o (S 57) N (.ld1 (t 56)), o (S 58) N (.lenV (t 57)), o (S 59) N (.bin .eql (t 58) (c (i I 0)))] [0, 1, 5, 6, 8, 9, 59]) (k (t 59) (q (r [o (S 60) N (m (t 0)), o (S 61) N (m (t 1)), o (S 62) N (.ldN 3 (t 5)), o (S 63) N (.build [(g ⟨#[]⟩), (g ⟨#[]⟩), (i U 0), (i U 0)] [(0, 1, (t 61)), (1, 3, (t 62))]), o (S 64) N (.bsl 4 1 [(g ⟨#[]⟩), (g ⟨#[]⟩), (i U 0), (i U 0)] [(0, 4, (t 63))]), o (S 65) N (.bsl 1 1 [(.slice none 0 0)] [(0, 1, (t 64))]), o (S 66) N (.nck (t 60)), o (S 67) N (.fa 0 (t 66)), o N N (.st 1 (t 67) (t 65))] [6]) (q (r [o (S 68) N (.build [(g ⟨#[]⟩), (i U 0), (i U 0)] []), o N N (.st 3 (t 6) (t 68)), o (S 7) N (m (c (b false)))] [6, 7]) .ret)) s)) (q (.draw 14 [o (S 69) N (m (t 0)), o (S 70) N (.nck (t 69)), o (S 71) N (.fa 0 (t 70)), o (S 72) N (.ld1 (t 71)), o (S 73) N (m (t 8)), o (S 74) N (.iaV 1 (t 72) (t 73)), o (S 75) N (.ld1 (t 74)), o (S 76) N (m (t 9)), o (S 77) N (m (t 1)), o (S 78) N (.ldN 3 (t 5)), o (S 79) N (.build [(g ⟨#[]⟩), (g ⟨#[]⟩), (i U 0), (i U 0)] [(0, 1, (t 77)), (1, 3, (t 78))]), .opA (some 80) N (.bsl 4 1 [(g ⟨#[]⟩), (g ⟨#[]⟩), (i U 0), (i U 0)] [(0, 4, (t 79))]) 11, y (S 81) N (.fn 62) [(t 75), (t 76), (t 80)], o (S 11) N (m (t 81))] [0, 6, 8, 11]) (q (r [o (S 82) N (m (t 0)), o (S 83) N (.nck (t 82)), o (S 84) N (.fa 0 (t 83)), o (S 85) N (.ld1 (t 84)), o (S 86) N (m (t 8)), o (S 87) N (m (t 11)), o (S 88) N (.iaV 1 (t 85) (t 86)), o N N (.st 1 (t 88) (t 87))] [0, 6, 8, 11]) (q (q (r [o (S 89) N (m (t 11)), o (S 90) N (.lenV (t 89)), o (S 91) N (.bin .gtr (t 90) (c (i I 8)))] [0, 6, 8, 11, 91]) (k (t 91) (q (r [o (S 92) N (m (t 11)), o (S 93) N (.lenV (t 92)), o (S 94) N (.bin .add (t 93) (c (i I 1))), o (S 95) N (.bin .quo (t 94) (c (i I 2))), o (S 12) N (m (t 95))] [0, 6, 8, 11, 12]) (q (.draw 16 [o (S 96) N (m (t 0)), o (S 97) N (m (t 0)), o (S 98) N (.nck (t 97)), o (S 99) N (.fa 0 (t 98)), o (S 100) N (.ld1 (t 99)), o (S 101) N (m (t 8)), o (S 102) N (.bin .add (t 101) (c (i I 1))), o (S 103) N (m (t 11)), o (S 104) N (m (t 12)), o (S 105) N (.slV 4 (t 103) (S (t 104)) none none), y (S 106) N (.fn 64) [(t 105)], .chk 100 none (.ld1 (t 99)), .opA (some 107) N (.bsl 1 1 [(.slice none 0 0)] [(0, 1, (t 106))]) 11, y (S 108) N (.fn 63) [(t 100), (t 102), (t 107)], o (S 109) N (.nck (t 96)), o (S 110) N (.fa 0 (t 109)), o N N (.st 1 (t 110) (t 108))] [0, 6, 8, 11, 12]) (.draw 11 [o (S 111) N (m (t 0)), o (S 112) N (.nck (t 111)), o (S 113) N (.fa 0 (t 112)), o (S 114) N (.ld1 (t 113)), o (S 115) N (m (t 8)), o (S 116) N (m (t 11)), o (S 117) N (m (t 12)), o (S 118) N (.slV 4 (t 116) N (some (t 117)) none), y (S 119) N (.fn 64) [(t 118)], .chk 114 none (.ld1 (t 113)), o (S 120) N (.iaV 1 (t 114) (t 115)), o N N (.st 1 (t 120) (t 119))] [6]))) s)) (q (r [o (S 121) N (.build [(g ⟨#[]⟩), (i U 0), (i U 0)] []), o N N (.st 3 (t 6) (t 121)), o (S 7) N (m (c (b false)))] [6, 7]) .ret))))))))))⟩
theorem ok56 : compF Try.prog 56 hi56 = some ir56 := by kernel_rfl
def hi58 : List Hint := [.keep [0, 1, 4], .keep [0, 4, 6, 7, 8], .keep [0, 4, 6, 7, 17], .keep [4, 5], .keep [4, 5]]
def ir58 : IFun := ⟨2, [.cell 4 (some 3), .tmp 5], (q (r [o (S 4) N (.new [(g ⟨#[]⟩), (i U 0), (i U 0)]), o (S 5) N (m (c (b false)))] [0, 1, 4]) (q (r [o (S 10) N (m (t 0)), o (S 11) N (m (t 1)), y (S 12) N (.fn 59) [(t 10), (t 11)], o (S 9) N (m (t 12)), o (S 13) N (.ext (t 9) 0), o (S 14) N (.ext (t 9) 1), o (S 15) N (.ext (t 9) 2), o (S 6) N (m (t 13)), o (S 7) N (m (t 14)), o (S 8) N (m (t 15))] [0, 4, 6, 7, 8]) (q (q (r [o (S 16) N (m (t 8)), o (S 17) N (.un .not (t 16))] [0, 4, 6, 7, 17]) (k (t 17) (q (r [o (S 18) N (.build [(g ⟨#[]⟩), (i U 0), (i U 0)] []), o N N (.st 3 (t 4) (t 18)), o (S 5) N (m (c (b false)))] [4, 5]) .ret) s)) (q (r [o (S 19) N (m (t 0)), o (S 20) N (.nck (t 19)), o (S 21) N (.fa 0 (t 20)), o (S 22) N (.ld1 (t 21)), o (S 23) N (m (t 6)), o (S 24) N (.iaV 1 (t 22) (t 23)), o (S 25) N (.ld1 (t 24)), o (S 26) N (m (t 7)), o (S 27) N (.iaV 4 (t 25) (t 26)), o (S 28) N (.fa 1 (t 27)), o (S 29) N (.ldN 3 (t 28)), o N N (.st 3 (t 4) (t 29)), o (S 5) N (m (c (b true)))] [4, 5]) .ret))))⟩
theorem ok58 : compF Try.prog 58 hi58 = some ir58 := by kernel_rfl
def hi59 : List Hint := [.keep [0, 1], .keep [0, 1, 16], .keep [4, 5, 6], .keep [0, 1, 4], .keep [4, 5, 6], .keep [4, 5, 6]]
def ir59 : IFun := ⟨2, [.tmp 4, .tmp 5, .tmp 6], (q (r [o (S 4) N (m (c (i I 0))), o (S 5) N (m (c (i I 0))), o (S 6) N (m (c (b false)))] [0, 1]) (q (q (r [o (S 7) N (m (t 0)), o (S 8) N (.eqq false .nilP (t 7) (c (.pointer none))), o (S 9) N (m (t 8)), o (S 10) (S (9, false)) (m (t 0)), o (S 11) (S (9, false)) (.nck (t 10)), o (S 12) (S (9, false)) (.fa 0 (t 11)), o (S 13) (S (9, false)) (.ld1 (t 12)), o (S 14) (S (9, false)) (.lenV (t 13)), o (S 15) (S (9, false)) (.bin .eql (t 14) (c (i I 0))), o (S 16) N (.pick (t 9) (c (b true)) (t 15))] [0, 1, 16]) (k (t 16) (q (r [o (S 4) N (m (c (i I 0))), o (S 5) N (m (c (i I 0))), o (S 6) N (m (c (b false)))] [4, 5, 6]) .ret) s)) (q (r [o (S 17) N (m (t 0)), o (S 18) N (m (t 1)), y (S 19) N (.fn 67) [(t 17), (t 18)], o (S 4) N (m (t 19))] [0, 1, 4]) (q (r [o (S 21) N (m (t 0)), o (S 22) N (.nck (t 21)), o (S 23) N (.fa 0 (t 22)), o (S 24) N (.ld1 (t 23)), o (S 25) N (m (t 4)), o (S 26) N (.iaV 1 (t 24) (t 25)), o (S 27) N (.ld1 (t 26)), o (S 28) N (m (t 1)), y (S 29) N (.fn 68) [(t 27), (t 28), (.func 69)], o (S 20) N (m (t 29)), o (S 30) N (.ext (t 20) 0), o (S 31) N (.ext (t 20) 1), o (S 5) N (m (t 30)), o (S 6) N (m (t 31))] [4, 5, 6]) (q (r [o (S 32) N (m (t 4)), o (S 33) N (m (t 5)), o (S 34) N (m (t 6)), o (S 4) N (m (t 32)), o (S 5) N (m (t 33)), o (S 6) N (m (t 34))] [4, 5, 6]) .ret)))))⟩
theorem ok59 : compF Try.prog 59 hi59 = some ir59 := by kernel_rfl
def hi61 : List Hint := [.keep [0], .keep [0, 3], .keep [0, 3], .keep [0, 3, 10], .keep [0, 3], .keep [0, 3], .keep [2]]
def ir61 : IFun := ⟨1, [.tmp 2], (q (r [o (S 2) N (m (c (g ⟨#[]⟩)))] [0]) (q (r [o (S 4) N (m (t 0)), o (S 5) N (.bin .rem (t 4) (c (i U 128))), o (S 6) N (.cvI .u8 (t 5)), o (S 7) N (.bsl 1 1 [(i B 0)] [(0, 1, (t 6))]), o (S 8) N (.cvB (t 7)), o (S 3) N (m (t 8))] [0, 3]) (q (.block 0 (.loop [0, 3] (q (q (r [o (S 9) N (m (t 0)), o (S 10) N (.bin .gtr (t 9) (c (i U 127)))] [0, 3, 10]) (k (t 10) .skip (.exit 0))) (.block 1 (q (r [o (S 11) N (m (t 0)), o (S 12) N (.bin .quo (t 11) (c (i U 128))), o (S 0) N (m (t 12))] [0, 3]) (r [o (S 13) N (m (t 0)), o (S 14) N (.bin .rem (t 13) (c (i U 128))), o (S 15) N (.bin .add (c (i U 128)) (t 14)), o (S 16) N (.cvI .u8 (t 15)), o (S 17) N (.bsl 1 1 [(i B 0)] [(0, 1, (t 16))]), o (S 18) N (.cvB (t 17)), o (S 19) N (m (t 3)), o (S 20) N (.bin .add (t 18) (t 19)), o (S 3) N (m (t 20))] [0, 3])))))) (q (r [o (S 21) N (m (t 3)), o (S 2) N (m (t 21))] [2]) .ret))))⟩
theorem ok61 : compF Try.prog 61 hi61 = some ir61 := by kernel_rfl
def hi62 : List Hint := [.keep [0, 1, 2], .keep [0, 1, 2], .keep [0, 1, 2, 7], .keep [0, 1, 2, 7, 16], .keep [6], .keep [0, 1, 2, 7, 8], .keep [0, 1, 2, 7, 8, 22], .keep [6], .keep [0, 1, 2, 7, 8, 31], .keep [0, 1, 2, 7, 9], .keep [0, 1, 7, 9], .draw [.op 0, .op 1, .op 2, .op 3, .op 4, .op 5, .op 6, .op 7, .op 8] [9], .keep [6], .keep [0, 1, 2, 7, 8], .keep [0, 1, 2, 7, 8, 68], .draw [.op 0, .op 1, .op 2, .op 3, .op 4, .op 5, .op 6, .op 7, .op 8] [0, 1, 2], .keep [0], .keep [6], .keep [0, 1, 7], .keep [0], .keep [6]]
def ir62 : IFun := ⟨3, [.tmp 6], (q (r [o (S 6) N (m (c (.slice none 0 0)))] [0, 1, 2]) (q (r [o (S 10) N (m (t 0)), o (S 11) N (m (t 1)), o (S 12) N (.slV 4 (t 10) (S (t 11)) none none)] [0, 1, 2]) (q (r [o (S 13) N (m (t 2)), o (S 14) N (.lenV (t 13)), o (S 7) N (m (t 14))] [0, 1, 2, 7]) (q (q (r [o (S 15) N (m (t 7)), o (S 16) N (.bin .eql (t 15) (c (i I 0)))] [0, 1, 2, 7, 16]) (k (t 16) (q (r [o (S 17) N (m (t 0)), o (S 6) N (m (t 17))] [6]) .ret) s)) (q (r [o (S 18) N (m (t 0)), o (S 19) N (.lenV (t 18)), o (S 8) N (m (t 19))] [0, 1, 2, 7, 8]) (q (q (r [o (S 20) N (m (t 1)), o (S 21) N (m (t 8)), o (S 22) N (.bin .eql (t 20) (t 21))] [0, 1, 2, 7, 8, 22]) (k (t 22) (q (r [o (S 23) N (m (t 0)), o (S 24) N (m (t 2)), o (S 25) N (.app 4 48 (t 23) (t 24)), o (S 6) N (m (t 25))] [6]) .ret) s)) (q (q (r [o (S 26) N (m (t 8)), o (S 27) N (m (t 7)), o (S 28) N (.bin .add (t 26) (t 27)), o (S 29) N (m (t 0)), o (S 30) N (.capV (t 29)), o (S 31) N (.bin .gtr (t 28) (t 30))] [0, 1, 2, 7, 8, 31]) (k (t 31) (q (r [o (S 32) N (m (t 0)), o (S 33) N (m (t 1)), o (S 34) N (.slV 4 (t 32) N (some (t 33)) none), o (S 35) N (m (t 8)), o (S 36) N (m (t 7)), o (S 37) N (.bin .add (t 35) (t 36)), o (S 38) N (m (t 1)), o (S 39) N (.bin .sub (t 37) (t 38)), o (S 40) N (.apz [(g ⟨#[]⟩), (g ⟨#[]⟩), (i U 0), (i U 0)] 48 (t 34) (t 39)), o (S 9) N (m (t 40))] [0, 1, 2, 7, 9]) (q (r [o (S 41) N (m (t 9)), o (S 42) N (m (t 1)), o (S 43) N (.slV 4 (t 41) (S (t 42)) none none), o (S 44) N (m (t 2)), o (S 45) N (.cpy 4 (t 43) (t 44))] [0, 1, 7, 9]) (q (.draw 9 [o (S 46) N (m (t 9)), o (S 47) N (m (t 1)), o (S 48) N (m (t 7)), o (S 49) N (.bin .add (t 47) (t 48)), o (S 50) N (.slV 4 (t 46) (S (t 49)) none none), o (S 51) N (m (t 0)), o (S 52) N (m (t 1)), o (S 53) N (.slV 4 (t 51) (S (t 52)) none none), o (S 54) N (.cpy 4 (t 50) (t 53))] [9]) (q (r [o (S 55) N (m (t 9)), o (S 6) N (m (t 55))] [6]) .ret)))) s)) (q (r [o (S 56) N (m (t 0)), o (S 57) N (m (t 8)), o (S 58) N (m (t 7)), o (S 59) N (.bin .add (t 57) (t 58)), o (S 60) N (.slV 4 (t 56) N (some (t 59)) none), o (S 0) N (m (t 60))] [0, 1, 2, 7, 8]) (q (q (r [o (S 61) N (m (t 2)), o (S 62) N (m (t 0)), o (S 63) N (m (t 1)), o (S 64) N (m (t 7)), o (S 65) N (.bin .add (t 63) (t 64)), o (S 66) N (.slV 4 (t 62) (S (t 65)) none none), o (S 67) N (.ovl (t 61) (t 66)), o (S 68) N (.un .not (t 67))] [0, 1, 2, 7, 8, 68]) (k (t 68) (q (.draw 9 [o (S 69) N (m (t 0)), o (S 70) N (m (t 1)), o (S 71) N (m (t 7)), o (S 72) N (.bin .add (t 70) (t 71)), o (S 73) N (.slV 4 (t 69) (S (t 72)) none none), o (S 74) N (m (t 0)), o (S 75) N (m (t 1)), o (S 76) N (.slV 4 (t 74) (S (t 75)) none none), o (S 77) N (.cpy 4 (t 73) (t 76))] [0, 1, 2]) (q (r [o (S 78) N (m (t 0)), o (S 79) N (m (t 1)), o (S 80) N (.slV 4 (t 78) (S (t 79)) none none), o (S 81) N (m (t 2)), o (S 82) N (.cpy 4 (t 80) (t 81))] [0]) (q (r [o (S 83) N (m (t 0)), o (S 6) N (m (t 83))] [6]) .ret))) s)) (q (r [o (S 84) N (m (t 0)), o (S 85) N (m (t 8)), o (S 86) N (.slV 4 (t 84) (S (t 85)) none none), o (S 87) N (m (t 2)), o (S 88) N (.cpy 4 (t 86) (t 87))] [0, 1, 7]) (q (r [o (S 89) N (m (t 0)), o (S 90) N (m (t 1)), o (S 91) N (.slV 4 (t 89) (S (t 90)) none none), o (S 92) N (m (t 7)), y (S 93) N (.fn 72) [(t 91), (t 92)]] [0]) (q (r [o (S 94) N (m (t 0)), o (S 6) N (m (t 94))] [6]) .ret))))))))))))⟩
theorem ok62 : compF Try.prog 62 hi62 = some ir62 := by kernel_rfl
def hi63 : List Hint := [.keep [0, 1, 2], .keep [0, 1, 2], .keep [0, 1, 2, 7], .keep [0, 1, 2, 7, 16], .keep [6], .keep [0, 1, 2, 7, 8], .keep [0, 1, 2, 7, 8, 22], .keep [6], .keep [0, 1, 2, 7, 8, 31], .keep [0, 1, 2, 7, 9], .keep [0, 1, 7, 9], .draw [.op 0, .op 1, .op 2, .op 3, .op 4, .op 5, .op 6, .op 7, .op 8] [9], .keep [6], .keep [0, 1, 2, 7, 8], .keep [0, 1, 2, 7, 8, 68], .draw [.op 0, .op 1, .op 2, .op 3, .op 4, .op 5, .op 6, .op 7, .op 8] [0, 1, 2], .keep [0], .keep [6], .keep [0, 1, 7], .keep [0], .keep [6]]
def ir63 : IFun := ⟨3, [.tmp 6], (q (r [o (S 6) N (m (c (.slice none 0 0)))] [0, 1, 2]) (q (r [o (S 10) N (m (t 0)), o (S 11) N (m (t 1)), o (S 12) N (.slV 1 (t 10) (S (t 11)) none none)] [0, 1, 2]) (q (r [o (S 13) N (m (t 2)), o (S 14) N (.lenV (t 13)), o (S 7) N (m (t 14))] [0, 1, 2, 7]) (q (q (r [o (S 15) N (m (t 7)), o (S 16) N (.bin .eql (t 15) (c (i I 0)))] [0, 1, 2, 7, 16]) (k (t 16) (q (r [o (S 17) N (m (t 0)), o (S 6) N (m (t 17))] [6]) .ret) s)) (q (r [o (S 18) N (m (t 0)), o (S 19) N (.lenV (t 18)), o (S 8) N (m (t 19))] [0, 1, 2, 7, 8]) (q (q (r [o (S 20) N (m (t 1)), o (S 21) N (m (t 8)), o (S 22) N (.bin .eql (t 20) (t 21))] [0, 1, 2, 7, 8, 22]) (k (t 22) (q (r [o (S 23) N (m (t 0)), o (S 24) N (m (t 2)), o (S 25) N (.app 1 24 (t 23) (t 24)), o (S 6) N (m (t 25))] [6]) .ret) s)) (q (q (r [o (S 26) N (m (t 8)), o (S 27) N (m (t 7)), o (S 28) N (.bin .add (t 26) (t 27)), o (S 29) N (m (t 0)), o (S 30) N (.capV (t 29)), o (S 31) N (.bin .gtr (t 28) (t 30))] [0, 1, 2, 7, 8, 31]) (k (t 31) (q (r [o (S 32) N (m (t 0)), o (S 33) N (m (t 1)), o (S 34) N (.slV 1 (t 32) N (some (t 33)) none), o (S 35) N (m (t 8)), o (S 36) N (m (t 7)), o (S 37) N (.bin .add (t 35) (t 36)), o (S 38) N (m (t 1)), o (S 39) N (.bin .sub (t 37) (t 38)), o (S 40) N (.apz [(.slice none 0 0)] 24 (t 34) (t 39)), o (S 9) N (m (t 40))] [0, 1, 2, 7, 9]) (q (r [o (S 41) N (m (t 9)), o (S 42) N (m (t 1)), o (S 43) N (.slV 1 (t 41) (S (t 42)) none none), o (S 44) N (m (t 2)), o (S 45) N (.cpy 1 (t 43) (t 44))] [0, 1, 7, 9]) (q (.draw 9 [o (S 46) N (m (t 9)), o (S 47) N (m (t 1)), o (S 48) N (m (t 7)), o (S 49) N (.bin .add (t 47) (t 48)), o (S 50) N (.slV 1 (t 46) (S (t 49)) none none), o (S 51) N (m (t 0)), o (S 52) N (m (t 1)), o (S 53) N (.slV 1 (t 51) (S (t 52)) none none), o (S 54) N (.cpy 1 (t 50) (t 53))] [9]) (q (r [o (S 55) N (m (t 9)), o (S 6) N (m (t 55))] [6]) .ret)))) s)) (q (r [o (S 56) N (m (t 0)), o (S 57) N (m (t 8)), o (S 58) N (m (t 7)), o (S 59) N (.bin .add (t 57) (t 58)), o (S 60) N (.slV 1 (t 56) N (some (t 59)) none), o (S 0) N (m (t 60))] [0, 1, 2, 7, 8]) (q (q (r [o (S 61) N (m (t 2)), o (S 62) N (m (t 0)), o (S 63) N (m (t 1)), o (S 64) N (m (t 7)), o (S 65) N (.bin .add (t 63) (t 64)), o (S 66) N (.slV 1 (t 62) (S (t 65)) none none), o (S 67) N (.ovl (t 61) (t 66)), o (S 68) N (.un .not (t 67))] [0, 1, 2, 7, 8, 68]) (k (t 68) (q (.draw 9 [o (S 69) N (m (t 0)), o (S 70) N (m (t 1)), o (S 71) N (m (t 7)), o (S 72) N (.bin .add (t 70) (t 71)), o (S 73) N (.slV 1 (t 69) (S (t 72)) none none), o (S 74) N (m (t 0)), o (S 75) N (m (t 1)), o (S 76) N (.slV 1 (t 74) (S (t 75)) none none), o (S 77) N (.cpy 1 (t 73) (t 76))] [0, 1, 2]) (q (r [o (S 78) N (m (t 0)), o (S 79) N (m (t 1)), o (S 80) N (.slV 1 (t 78) (S (t 79)) none none), o (S 81) N (m (t 2)), o (S 82) N (.cpy 1 (t 80) (t 81))] [0]) (q (r [o (S 83) N (m (t 0)), o (S 6) N (m (t 83))] [6]) .ret))) s)) (q (r [o (S 84) N (m (t 0)), o (S 85) N (m (t 8)), o (S 86) N (.slV 1 (t 84) (S (t 85)) none none), o (S 87) N (m (t 2)), o (S 88) N (.cpy 1 (t 86) (t 87))] [0, 1, 7]) (q (r [o (S 89) N (m (t 0)), o (S 90) N (m (t 1)), o (S 91) N (.slV 1 (t 89) (S (t 90)) none none), o (S 92) N (m (t 7)), y (S 93) N (.fn 74) [(t 91), (t 92)]] [0]) (q (r [o (S 94) N (m (t 0)), o (S 6) N (m (t 94))] [6]) .ret))))))))))))⟩
theorem ok63 : compF Try.prog 63 hi63 = some ir63 := by kernel_rfl
def hi64 : List Hint := [.keep [0], .keep [0, 4], .keep [2], .keep [2]]
def ir64 : IFun := ⟨1, [.tmp 2], (q (r [o (S 2) N (m (c (.slice none 0 0)))] [0]) (q (q (r [o (S 3) N (m (t 0)), o (S 4) N (.eqq false .nilV (t 3) (c (.slice none 0 0)))] [0, 4]) (k (t 4) (q (r [o (S 2) N (m (c (.slice none 0 0)))] [2]) .ret) s)) (q (r [o (S 5) N (.bsl 4 0 [] []), o (S 6) N (m (t 0)), o (S 7) N (.app 4 48 (t 5) (t 6)), o (S 2) N (m (t 7))] [2]) .ret)))⟩
theorem ok64 : compF Try.prog 64 hi64 = some ir64 := by kernel_rfl
def hi65 : List Hint := [.keep [0, 1, 2], .keep [0, 1, 2], .keep [0, 1, 2, 16], .keep [6], .keep [0, 1, 2, 7], .draw [.op 0, .op 1, .op 2, .op 3, .op 4, .op 5, .op 6, .op 7] [0, 7], .keep [0], .keep [6]]
def ir65 : IFun := ⟨3, [.tmp 6], (q (r [o (S 6) N (m (c (.slice none 0 0)))] [0, 1, 2]) (q (r [o (S 8) N (m (t 0)), o (S 9) N (m (t 1)), o (S 10) N (m (t 2)), o (S 11) N (m (t 0)), o (S 12) N (.lenV (t 11)), o (S 13) N (.slV 4 (t 8) (S (t 9)) (S (t 10)) (S (t 12)))] [0, 1, 2]) (q (q (r [o (S 14) N (m (t 1)), o (S 15) N (m (t 2)), o (S 16) N (.bin .eql (t 14) (t 15))] [0, 1, 2, 16]) (k (t 16) (q (r [o (S 17) N (m (t 0)), o (S 6) N (m (t 17))] [6]) .ret) s)) (q (r [o (S 18) N (m (t 0)), o (S 19) N (.lenV (t 18)), o (S 7) N (m (t 19))] [0, 1, 2, 7]) (q (.draw 8 [o (S 20) N (m (t 0)), o (S 21) N (m (t 1)), o (S 22) N (.slV 4 (t 20) N (some (t 21)) none), o (S 23) N (m (t 0)), o (S 24) N (m (t 2)), o (S 25) N (.slV 4 (t 23) (S (t 24)) none none), o (S 26) N (.app 4 48 (t 22) (t 25)), o (S 0) N (m (t 26))] [0, 7]) (q (r [o (S 27) N (m (t 0)), o (S 28) N (m (t 0)), o (S 29) N (.lenV (t 28)), o (S 30) N (m (t 7)), o (S 31) N (.slV 4 (t 27) (S (t 29)) (S (t 30)) none), o N N (.clr 4 [(g ⟨#[]⟩), (g ⟨#[]⟩), (i U 0), (i U 0)] (t 31))] [0]) (q (r [o (S 32) N (m (t 0)), o (S 6) N (m (t 32))] [6]) .ret)))))))⟩
theorem ok65 : compF Try.prog 65 hi65 = some ir65 := by kernel_rfl
def hi66 : List Hint := [.keep [0, 1, 2], .keep [0, 1, 2], .keep [0, 1, 2, 16], .keep [6], .keep [0, 1, 2, 7], .draw [.op 0, .op 1, .op 2, .op 3, .op 4, .op 5, .op 6, .op 7] [0, 7], .keep [0], .keep [6]]
def ir66 : IFun := ⟨3, [.tmp 6], (q (r [o (S 6) N (m (c (.slice none 0 0)))] [0, 1, 2]) (q (r [o (S 8) N (m (t 0)), o (S 9) N (m (t 1)), o (S 10) N (m (t 2)), o (S 11) N (m (t 0)), o (S 12) N (.lenV (t 11)), o (S 13) N (.slV 1 (t 8) (S (t 9)) (S (t 10)) (S (t 12)))] [0, 1, 2]) (q (q (r [o (S 14) N (m (t 1)), o (S 15) N (m (t 2)), o (S 16) N (.bin .eql (t 14) (t 15))] [0, 1, 2, 16]) (k (t 16) (q (r [o (S 17) N (m (t 0)), o (S 6) N (m (t 17))] [6]) .ret) s)) (q (r [o (S 18) N (m (t 0)), o (S 19) N (.lenV (t 18)), o (S 7) N (m (t 19))] [0, 1, 2, 7]) (q (.draw 8 [o (S 20) N (m (t 0)), o (S 21) N (m (t 1)), o (S 22) N (.slV 1 (t 20) N (some (t 21)) none), o (S 23) N (m (t 0)), o (S 24) N (m (t 2)), o (S 25) N (.slV 1 (t 23) (S (t 24)) none none), o (S 26) N (.app 1 24 (t 22) (t 25)), o (S 0) N (m (t 26))] [0, 7]) (q (r [o (S 27) N (m (t 0)), o (S 28) N (m (t 0)), o (S 29) N (.lenV (t 28)), o (S 30) N (m (t 7)), o (S 31) N (.slV 1 (t 27) (S (t 29)) (S (t 30)) none), o N N (.clr 1 [(.slice none 0 0)] (t 31))] [0]) (q (r [o (S 32) N (m (t 0)), o (S 6) N (m (t 32))] [6]) .ret)))))))⟩
theorem ok66 : compF Try.prog 66 hi66 = some ir66 := by kernel_rfl
def hi67 : List Hint := [.keep [2, 3], .keep [4]]
def ir67 : IFun := ⟨2, [.tmp 4], (q (r [o (S 2) N (.box (t 0)), o (S 3) N (.box (t 1)), o (S 4) N (m (c (i I 0)))] [2, 3]) (q (r [o (S 5) N (.ld1 (t 2)), o (S 6) N (.nck (t 5)), o (S 7) N (.fa 0 (t 6)), o (S 8) N (.ld1 (t 7)), o (S 9) N (.lenV (t 8)), o (S 10) N (.mkF (.func 76) [] [(t 2), (t 3)]), y (S 11) N (.fn 75) [(t 9), (t 10)], o (S 12) N (.bin .sub (t 11) (c (i I 1))), o (S 13) N (.mm false (t 12) (c (i I 0))), o (S 4) N (m (t 13))] [4]) .ret))⟩
theorem ok67 : compF Try.prog 67 hi67 = some ir67 := by kernel_rfl
def hi68 : List Hint := [.keep [0, 1, 2], .keep [0, 1, 2, 8], .keep [0, 1, 2, 8, 9, 10], .keep [0, 1, 2, 8, 9, 10], .keep [0, 1, 2, 8, 9, 10, 17], .keep [0, 1, 2, 8, 9, 10, 11], .keep [0, 1, 2, 8, 9, 10, 11, 31], .keep [0, 1, 2, 8, 9, 10], .keep [0, 1, 2, 8, 9, 10], .keep [6, 7]]
def ir68 : IFun := ⟨3, [.tmp 6, .tmp 7], (q (r [o (S 6) N (m (c (i I 0))), o (S 7) N (m (c (b false)))] [0, 1, 2]) (q (r [o (S 12) N (m (t 0)), o (S 13) N (.lenV (t 12)), o (S 8) N (m (t 13))] [0, 1, 2, 8]) (q (r [o (S 14) N (m (t 8)), o (S 9) N (m (c (i I 0))), o (S 10) N (m (t 14))] [0, 1, 2, 8, 9, 10]) (q (.block 0 (.loop [0, 1, 2, 8, 9, 10] (q (q (r [o (S 15) N (m (t 9)), o (S 16) N (m (t 10)), o (S 17) N (.bin .lss (t 15) (t 16))] [0, 1, 2, 8, 9, 10, 17]) (k (t 17) .skip (.exit 0))) (.block 1 (q (r [o (S 18) N (m (t 9)), o (S 19) N (m (t 10)), o (S 20) N (.bin .add (t 18) (t 19)), o (S 21) N (.cvI .u64 (t 20)), o (S 22) N (.bin .shr (t 21) (c (i U 1))), o (S 23) N (.cvI .i64 (t 22)), o (S 11) N (m (t 23))] [0, 1, 2, 8, 9, 10, 11]) (q (r [o (S 24) N (m (t 2)), o (S 25) N (m (t 0)), o (S 26) N (m (t 11)), o (S 27) N (.iaV 4 (t 25) (t 26)), o (S 28) N (.ldN 4 (t 27)), o (S 29) N (m (t 1)), y (S 30) N (.val (t 24)) [(t 28), (t 29)], o (S 31) N (.bin .lss (t 30) (c (i I 0)))] [0, 1, 2, 8, 9, 10, 11, 31]) (k (t 31) (r [o (S 32) N (m (t 11)), o (S 33) N (.bin .add (t 32) (c (i I 1))), o (S 9) N (m (t 33))] [0, 1, 2, 8, 9, 10]) (r [o (S 34) N (m (t 11)), o (S 10) N (m (t 34))] [0, 1, 2, 8, 9, 10])))))))) (q (r [o (S 35) N (m (t 9)), o (S 36) N (m (t 9)), o (S 37) N (m (t 8)), o (S 38) N (.bin .lss (t 36) (t 37)), o (S 39) N (m (t 38)), o (S 40) (S (39, true)) (m (t 2)), o (S 41) (S (39, true)) (m (t 0)), o (S 42) (S (39, true)) (m (t 9)), o (S 43) (S (39, true)) (.iaV 4 (t 41) (t 42)), o (S 44) (S (39, true)) (.ldN 4 (t 43)), o (S 45) (S (39, true)) (m (t 1)), y (S 46) (S (39, true)) (.val (t 40)) [(t 44), (t 45)], o (S 47) (S (39, true)) (.bin .eql (t 46) (c (i I 0))), o (S 48) N (.pick (t 39) (t 47) (c (b false))), o (S 6) N (m (t 35)), o (S 7) N (m (t 48))] [6, 7]) .ret)))))⟩
theorem ok68 : compF Try.prog 68 hi68 = some ir68 := by kernel_rfl
def hi69 : List Hint := [.keep [1, 2], .keep [4]]
def ir69 : IFun := ⟨2, [.tmp 4], (q (r [o (S 2) N (.box (t 0)), o (S 4) N (m (c (i I 0)))] [1, 2]) (q (r [o (S 5) N (.fa 0 (t 2)), o (S 6) N (.ld1 (t 5)), o (S 7) N (m (t 1)), y (S 8) N (.fn 70) [(t 6), (t 7)], o (S 4) N (m (t 8))] [4]) .ret))⟩
theorem ok69 : compF Try.prog 69 hi69 = some ir69 := by kernel_rfl
def hi70 : List Hint := [.keep [0, 1], .keep [0, 1, 5], .keep [0, 1, 5, 6], .keep [0, 1, 6, 11], .keep [12], .keep [4], .keep [4], .keep [0, 1, 13], .keep [4], .keep [0, 1, 16], .keep [4], .keep [19], .keep [4], .keep [4]]
def ir70 : IFun := ⟨2, [.tmp 4], (q (r [o (S 4) N (m (c (i I 0)))] [0, 1]) (q (r [o (S 7) N (m (t 0)), y (S 8) N (.fn 77) [(t 7)], o (S 5) N (m (t 8))] [0, 1, 5]) (q (r [o (S 9) N (m (t 1)), y (S 10) N (.fn 77) [(t 9)], o (S 6) N (m (t 10))] [0, 1, 5, 6]) (q (q (r [o (S 11) N (m (t 5))] [0, 1, 6, 11]) (k (t 11) (q (q (r [o (S 12) N (m (t 6))] [12]) (k (t 12) (q (r [o (S 4) N (m (c (i I 0)))] [4]) .ret) s)) (q (r [o (S 4) N (m (c (i I (-1))))] [4]) .ret)) s)) (q (q (r [o (S 13) N (m (t 6))] [0, 1, 13]) (k (t 13) (q (r [o (S 4) N (m (c (i I 1)))] [4]) .ret) s)) (q (q (r [o (S 14) N (m (t 0)), o (S 15) N (m (t 1)), o (S 16) N (.bin .lss (t 14) (t 15))] [0, 1, 16]) (k (t 16) (q (r [o (S 4) N (m (c (i I (-1))))] [4]) .ret) s)) (q (q (r [o (S 17) N (m (t 0)), o (S 18) N (m (t 1)), o (S 19) N (.bin .gtr (t 17) (t 18))] [19]) (k (t 19) (q (r [o (S 4) N (m (c (i I 1)))] [4]) .ret) s)) (q (r [o (S 4) N (m (c (i I 0)))] [4]) .ret))))))))⟩
theorem ok70 : compF Try.prog 70 hi70 = some ir70 := by kernel_rfl
def hi72 : List Hint := [.keep []]
def ir72 : IFun := ⟨2, [], (r [o (S 4) N (m (t 0)), o (S 5) N (m (t 0)), o (S 6) N (.lenV (t 5)), o (S 7) N (m (t 1)), o (S 8) N (.bin .sub (t 6) (t 7)), y (S 9) N (.fn 78) [(t 4), (t 8)]] [])⟩
theorem ok72 : compF Try.prog 72 hi72 = some ir72 := by kernel_rfl
def hi74 : List Hint := [.keep []]
def ir74 : IFun := ⟨2, [], (r [o (S 4) N (m (t 0)), o (S 5) N (m (t 0)), o (S 6) N (.lenV (t 5)), o (S 7) N (m (t 1)), o (S 8) N (.bin .sub (t 6) (t 7)), y (S 9) N (.fn 79) [(t 4), (t 8)]] [])⟩
theorem ok74 : compF Try.prog 74 hi74 = some ir74 := by kernel_rfl
def hi75 : List Hint := [.keep [0, 1], .keep [1, 5, 6], .keep [1, 5, 6], .keep [1, 5, 6, 11], .keep [1, 5, 6, 7], .keep [1, 5, 6, 7, 21], .keep [1, 5, 6], .keep [1, 5, 6], .keep [4]]
def ir75 : IFun := ⟨2, [.tmp 4], (q (r [o (S 4) N (m (c (i I 0)))] [0, 1]) (q (r [o (S 8) N (m (t 0)), o (S 5) N (m (c (i I 0))), o (S 6) N (m (t 8))] [1, 5, 6]) (q (.block 0 (.loop [1, 5, 6] (q (q (r [o (S 9) N (m (t 5)), o (S 10) N (m (t 6)), o (S 11) N (.bin .lss (t 9) (t 10))] [1, 5, 6, 11]) (k (t 11) .skip (.exit 0))) (.block 1 (q (r [o (S 12) N (m (t 5)), o (S 13) N (m (t 6)), o (S 14) N (.bin .add (t 12) (t 13)), o (S 15) N (.cvI .u64 (t 14)), o (S 16) N (.bin .shr (t 15) (c (i U 1))), o (S 17) N (.cvI .i64 (t 16)), o (S 7) N (m (t 17))] [1, 5, 6, 7]) (q (r [o (S 18) N (m (t 1)), o (S 19) N (m (t 7)), y (S 20) N (.val (t 18)) [(t 19)], o (S 21) N (.un .not (t 20))] [1, 5, 6, 7, 21]) (k (t 21) (r [o (S 22) N (m (t 7)), o (S 23) N (.bin .add (t 22) (c (i I 1))), o (S 5) N (m (t 23))] [1, 5, 6]) (r [o (S 24) N (m (t 7)), o (S 6) N (m (t 24))] [1, 5, 6])))))))) (q (r [o (S 25) N (m (t 5)), o (S 4) N (m (t 25))] [4]) .ret))))⟩
theorem ok75 : compF Try.prog 75 hi75 = some ir75 := by kernel_rfl
def hi76 : List Hint := [.keep [0, 1, 2], .draw [.op 0, .op 1, .op 2, .op 3, .op 4, .op 5, .op 6, .op 7, .op 8, .op 9, .op 10, .op 11, .op 12] [4]]
def ir76 : IFun := ⟨3, [.tmp 4], (q (r [o (S 4) N (m (c (b false)))] [0, 1, 2]) (q (.draw 13 [o (S 5) N (.ld1 (t 1)), o (S 6) N (.nck (t 5)), o (S 7) N (.fa 0 (t 6)), o (S 8) N (.ld1 (t 7)), o (S 9) N (m (t 0)), o (S 10) N (.iaV 1 (t 8) (t 9)), o (S 11) N (.ld1 (t 10)), o (S 12) N (.iaV 4 (t 11) (c (i I 0))), o (S 13) N (.fa 0 (t 12)), o (S 14) N (.ld1 (t 13)), o (S 15) N (.ld1 (t 2)), o (S 16) N (.bin .gtr (t 14) (t 15)), o (S 4) N (m (t 16))] [4]) .ret))⟩
theorem ok76 : compF Try.prog 76 hi76 = some ir76 := by kernel_rfl
def hi77 : List Hint := [.keep [0], .keep [2]]
def ir77 : IFun := ⟨1, [.tmp 2], (q (r [o (S 2) N (m (c (b false)))] [0]) (q (r [o (S 3) N (m (t 0)), o (S 4) N (m (t 0)), o (S 5) N (.bin .neq (t 3) (t 4)), o (S 2) N (m (t 5))] [2]) .ret))⟩
theorem ok77 : compF Try.prog 77 hi77 = some ir77 := by kernel_rfl
def hi78 : List Hint := [.keep [0, 1], .keep [0], .keep []]
def ir78 : IFun := ⟨2, [], (q (r [o (S 4) N (m (t 0)), o (S 5) N (m (t 1)), o (S 6) N (.slV 4 (t 4) N (some (t 5)) none), y (S 7) N (.fn 80) [(t 6)]] [0, 1]) (q (r [o (S 8) N (m (t 0)), o (S 9) N (m (t 1)), o (S 10) N (.slV 4 (t 8) (S (t 9)) none none), y (S 11) N (.fn 80) [(t 10)]] [0]) (r [o (S 12) N (m (t 0)), y (S 13) N (.fn 80) [(t 12)]] [])))⟩
theorem ok78 : compF Try.prog 78 hi78 = some ir78 := by kernel_rfl
def hi79 : List Hint := [.keep [0, 1], .keep [0], .keep []]
def ir79 : IFun := ⟨2, [], (q (r [o (S 4) N (m (t 0)), o (S 5) N (m (t 1)), o (S 6) N (.slV 1 (t 4) N (some (t 5)) none), y (S 7) N (.fn 81) [(t 6)]] [0, 1]) (q (r [o (S 8) N (m (t 0)), o (S 9) N (m (t 1)), o (S 10) N (.slV 1 (t 8) (S (t 9)) none none), y (S 11) N (.fn 81) [(t 10)]] [0]) (r [o (S 12) N (m (t 0)), y (S 13) N (.fn 81) [(t 12)]] [])))⟩
theorem ok79 : compF Try.prog 79 hi79 = some ir79 := by kernel_rfl
def hi80 : List Hint := [.keep [0, 2, 3], .keep [0, 2, 3], .keep [0, 2, 3, 9], .draw [.op 0, .op 1, .op 2, .op 3, .op 4, .op 5, .op 6, .op 7, .op 8, .op 9, .op 10, .op 11, .op 12, .op 13, .op 14, .op 15] [0, 2, 3], .keep [0, 2, 3]]
def ir80 : IFun := ⟨1, [], (q (r [o (S 4) N (m (t 0)), o (S 5) N (.lenV (t 4)), o (S 6) N (.bin .sub (t 5) (c (i I 1))), o (S 2) N (m (c (i I 0))), o (S 3) N (m (t 6))] [0, 2, 3]) (.block 0 (.loop [0, 2, 3] (q (q (r [o (S 7) N (m (t 2)), o (S 8) N (m (t 3)), o (S 9) N (.bin .lss (t 7) (t 8))] [0, 2, 3, 9]) (k (t 9) .skip (.exit 0))) (q (.block 1 (.draw 16 [o (S 14) N (m (t 0)), o (S 15) N (m (t 2)), o (S 16) N (m (t 0)), o (S 17) N (m (t 3)), o (S 18) N (m (t 0)), o (S 19) N (m (t 3)), o (S 20) N (.iaV 4 (t 18) (t 19)), o (S 21) N (.ldN 4 (t 20)), o (S 22) N (m (t 0)), o (S 23) N (m (t 2)), o (S 24) N (.iaV 4 (t 22) (t 23)), o (S 25) N (.ldN 4 (t 24)), o (S 26) N (.iaV 4 (t 14) (t 15)), o N N (.st 4 (t 26) (t 21)), o (S 27) N (.iaV 4 (t 16) (t 17)), o N N (.st 4 (t 27) (t 25))] [0, 2, 3])) (r [o (S 10) N (m (t 2)), o (S 11) N (.bin .add (t 10) (c (i I 1))), o (S 12) N (m (t 3)), o (S 13) N (.bin .sub (t 12) (c (i I 1))), o (S 2) N (m (t 11)), o (S 3) N (m (t 13))] [0, 2, 3]))))))⟩
theorem ok80 : compF Try.prog 80 hi80 = some ir80 := by kernel_rfl
def hi81 : List Hint := [.keep [0, 2, 3], .keep [0, 2, 3], .keep [0, 2, 3, 9], .draw [.op 0, .op 1, .op 2, .op 3, .op 4, .op 5, .op 6, .op 7, .op 8, .op 9, .op 10, .op 11, .op 12, .op 13, .op 14, .op 15] [0, 2, 3], .keep [0, 2, 3]]
def ir81 : IFun := ⟨1, [], (q (r [o (S 4) N (m (t 0)), o (S 5) N (.lenV (t 4)), o (S 6) N (.bin .sub (t 5) (c (i I 1))), o (S 2) N (m (c (i I 0))), o (S 3) N (m (t 6))] [0, 2, 3]) (.block 0 (.loop [0, 2, 3] (q (q (r [o (S 7) N (m (t 2)), o (S 8) N (m (t 3)), o (S 9) N (.bin .lss (t 7) (t 8))] [0, 2, 3, 9]) (k (t 9) .skip (.exit 0))) (q (.block 1 (.draw 16 [o (S 14) N (m (t 0)), o (S 15) N (m (t 2)), o (S 16) N (m (t 0)), o (S 17) N (m (t 3)), o (S 18) N (m (t 0)), o (S 19) N (m (t 3)), o (S 20) N (.iaV 1 (t 18) (t 19)), o (S 21) N (.ld1 (t 20)), o (S 22) N (m (t 0)), o (S 23) N (m (t 2)), o (S 24) N (.iaV 1 (t 22) (t 23)), o (S 25) N (.ld1 (t 24)), o (S 26) N (.iaV 1 (t 14) (t 15)), o N N (.st 1 (t 26) (t 21)), o (S 27) N (.iaV 1 (t 16) (t 17)), o N N (.st 1 (t 27) (t 25))] [0, 2, 3])) (r [o (S 10) N (m (t 2)), o (S 11) N (.bin .add (t 10) (c (i I 1))), o (S 12) N (m (t 3)), o (S 13) N (.bin .sub (t 12) (c (i I 1))), o (S 2) N (m (t 11)), o (S 3) N (m (t 13))] [0, 2, 3]))))))⟩
theorem ok81 : compF Try.prog 81 hi81 = some ir81 := by kernel_rfl
end Go.Proofs.Ytkfjlbdedjoojaa.IrAll
namespace Go.Proofs.Ytkfjlbdedjoojaa.IrAll
open Go Go.Proofs.Ytkfjlbdedjoojaa.Am
def tabC : Nat → Option FD
  | 5 => some (.code ir5)
  | 10 => some (.code ir10)
  | 11 => some (.code ir11)
  | 12 => some (.code ir12)
  | 16 => some (.code ir16)
  | 17 => some (.code ir17)
  | 23 => some (.code ir23)
  | 24 => some (.code ir24)
  | 25 => some (.code ir25)
  | 26 => some (.code ir26)
  | 28 => some (.code ir28)
  | 30 => some (.code ir30)
  | 32 => some (.code ir32)
  | 33 => some (.code ir33)
  | 34 => some (.code ir34)
  | 35 => some (.code ir35)
  | 36 => some (.code ir36)
  | 37 => some (.code ir37)
  | 38 => some (.code ir38)
  | 46 => some (.code ir46)
  | 47 => some (.code ir47)
  | 48 => some (.code ir48)
  | 49 => some (.code ir49)
  | 50 => some (.code ir50)
  | 51 => some (.code ir51)
  | 52 => some (.code ir52)
  | 53 => some (.code ir53)
  | 55 => some (.code ir55)
  | 56 => some (.code ir56)
  | 58 => some (.code ir58)
  | 59 => some (.code ir59)
  | 61 => some (.code ir61)
  | 62 => some (.code ir62)
  | 63 => some (.code ir63)
  | 64 => some (.code ir64)
  | 65 => some (.code ir65)
  | 66 => some (.code ir66)
  | 67 => some (.code ir67)
  | 68 => some (.code ir68)
  | 69 => some (.code ir69)
  | 70 => some (.code ir70)
  | 72 => some (.code ir72)
  | 74 => some (.code ir74)
  | 75 => some (.code ir75)
  | 76 => some (.code ir76)
  | 77 => some (.code ir77)
  | 78 => some (.code ir78)
  | 79 => some (.code ir79)
  | 80 => some (.code ir80)
  | 81 => some (.code ir81)
  | _ => none
theorem tabCOK : TabOK Try.prog tabC := by
  intro f d h
  unfold tabC at h
  split at h
  · cases h; exact ⟨hi5, ok5⟩
  · cases h; exact ⟨hi10, ok10⟩
  · cases h; exact ⟨hi11, ok11⟩
  · cases h; exact ⟨hi12, ok12⟩
  · cases h; exact ⟨hi16, ok16⟩
  · cases h; exact ⟨hi17, ok17⟩
  · cases h; exact ⟨hi23, ok23⟩
  · cases h; exact ⟨hi24, ok24⟩
  · cases h; exact ⟨hi25, ok25⟩
  · cases h; exact ⟨hi26, ok26⟩
  · cases h; exact ⟨hi28, ok28⟩
  · cases h; exact ⟨hi30, ok30⟩
  · cases h; exact ⟨hi32, ok32⟩
  · cases h; exact ⟨hi33, ok33⟩
  · cases h; exact ⟨hi34, ok34⟩
  · cases h; exact ⟨hi35, ok35⟩
  · cases h; exact ⟨hi36, ok36⟩
  · cases h; exact ⟨hi37, ok37⟩
  · cases h; exact ⟨hi38, ok38⟩
  · cases h; exact ⟨hi46, ok46⟩
  · cases h; exact ⟨hi47, ok47⟩
  · cases h; exact ⟨hi48, ok48⟩
  · cases h; exact ⟨hi49, ok49⟩
  · cases h; exact ⟨hi50, ok50⟩
  · cases h; exact ⟨hi51, ok51⟩
  · cases h; exact ⟨hi52, ok52⟩
  · cases h; exact ⟨hi53, ok53⟩
  · cases h; exact ⟨hi55, ok55⟩
  · cases h; exact ⟨hi56, ok56⟩
  · cases h; exact ⟨hi58, ok58⟩
  · cases h; exact ⟨hi59, ok59⟩
  · cases h; exact ⟨hi61, ok61⟩
  · cases h; exact ⟨hi62, ok62⟩
  · cases h; exact ⟨hi63, ok63⟩
  · cases h; exact ⟨hi64, ok64⟩
  · cases h; exact ⟨hi65, ok65⟩
  · cases h; exact ⟨hi66, ok66⟩
  · cases h; exact ⟨hi67, ok67⟩
  · cases h; exact ⟨hi68, ok68⟩
  · cases h; exact ⟨hi69, ok69⟩
  · cases h; exact ⟨hi70, ok70⟩
  · cases h; exact ⟨hi72, ok72⟩
  · cases h; exact ⟨hi74, ok74⟩
  · cases h; exact ⟨hi75, ok75⟩
  · cases h; exact ⟨hi76, ok76⟩
  · cases h; exact ⟨hi77, ok77⟩
  · cases h; exact ⟨hi78, ok78⟩
  · cases h; exact ⟨hi79, ok79⟩
  · cases h; exact ⟨hi80, ok80⟩
  · cases h; exact ⟨hi81, ok81⟩
  · cases h
theorem mixed : Try.prog.follows .mixedOrders = true := by kernel_rfl
theorem dOK : DrawOK Try.prog := drawOK mixed
def isT : Option (Value × H) → Bool
  | some (.bool true, _) => true
  | _ => false
theorem isT_some {x : Option (Value × H)} (h : isT x = true) : ∃ h2, x = some (.bool true, h2) := by
  unfold isT at h
  split at h
  · exact ⟨_, rfl⟩
  · cases h
theorem awakeRan : isT (runE tabC 4000 10 [] ⟨.leaf, 0⟩) = true := by decide +kernel
def gAw : List Value → H → Option (Value × H) := fun us h => if us = [] then some (.bool true, h) else none
theorem sAw : SoundF Try.prog 10 gAw := by
  obtain ⟨h2, hr⟩ := isT_some awakeRan
  exact SoundF.closed dOK tabCOK (v := .bool true) rfl ⟨4000, hr⟩
def tabA : Nat → Option FD := fun f => if f = 10 then some (.spec gAw) else tabC f
theorem tabAOK : TabOK Try.prog tabA := by
  intro f d h
  unfold tabA at h
  split at h
  · rename_i e; subst e; cases h; exact sAw
  · exact tabCOK f d h
end Go.Proofs.Ytkfjlbdedjoojaa.IrAll
namespace Go.Proofs.Ytkfjlbdedjoojaa.Am
open Go
set_option linter.unusedVariables false
set_option linter.unusedSimpArgs false
abbrev Seg := List (Nat × Blk)
structure Mem (base h : H) (L : List Seg) (R : List Nat) : Prop where
  wf : ∀ n B, h.get n = some B → n < h.next
  nx : base.next ≤ h.next
  sub : ∀ n B, base.get n = some B → h.get n = some B
  no : ∀ n, n < base.next → base.get n = none → h.get n = none
  own : ∀ p ∈ L.flatten, h.get p.1 = some p.2 ∧ base.next ≤ p.1 ∧ base.get p.1 = none
  nd : (L.flatten.map Prod.fst).Nodup
  res : ∀ n ∈ R, base.next ≤ n ∧ n < h.next ∧ h.get n = none
  rnd : R.Nodup
variable {base h h1 h2 h3 : H} {L L' : List Seg} {R : List Nat} {S : Seg}
theorem Mem.start (wf : ∀ n B, h.get n = some B → n < h.next) : Mem h h [] [] :=
  ⟨wf, Nat.le_refl _, fun _ _ e => e, fun _ _ e => e, fun p hp => by simp at hp, by simp, fun n hn => by simp at hn, by simp⟩
theorem Mem.here (M : Mem base h L R) : Mem h h [] [] := .start M.wf
theorem Mem.bare (M : Mem base h L R) : Mem base h L [] := ⟨M.wf, M.nx, M.sub, M.no, M.own, M.nd, fun n hn => by simp at hn, by simp⟩
theorem Mem.trans (M : Mem base h L R) (N : Mem h h2 L' []) : Mem base h2 (L' ++ L) R := by
  refine ⟨N.wf, Nat.le_trans M.nx N.nx, fun n B e => N.sub n B (M.sub n B e), fun n hn e => N.no n (Nat.lt_of_lt_of_le hn M.nx) (M.no n hn e), fun p hp => ?_, ?_, fun n hn => ?_, M.rnd⟩
  · rw [List.flatten_append, List.mem_append] at hp
    rcases hp with hp | hp
    · obtain ⟨a, b, c⟩ := N.own p hp
      refine ⟨a, Nat.le_trans M.nx b, ?_⟩
      cases e : base.get p.1 with
      | none => rfl
      | some B => have := M.wf _ _ (M.sub _ _ e); omega
    · obtain ⟨a, b, c⟩ := M.own p hp
      exact ⟨N.sub _ _ a, b, c⟩
  · rw [List.flatten_append, List.map_append, List.nodup_append]
    refine ⟨N.nd, M.nd, fun a ha b hb => ?_⟩
    obtain ⟨p, hp, rfl⟩ := List.mem_map.1 ha
    obtain ⟨q, hq, rfl⟩ := List.mem_map.1 hb
    have := (N.own p hp).2.1
    have := M.wf _ _ (M.own q hq).1
    omega
  · obtain ⟨a, b, c⟩ := M.res n hn
    exact ⟨a, Nat.lt_of_lt_of_le b N.nx, N.no n b c⟩
theorem Mem.drop (M : Mem base h (S :: L) R) : Mem base h L R :=
  ⟨M.wf, M.nx, M.sub, M.no, fun p hp => M.own p (by simp only [List.flatten_cons, List.mem_append]; exact .inr hp), by have := M.nd; rw [List.flatten_cons, List.map_append, List.nodup_append] at this; exact this.2.1, M.res, M.rnd⟩
theorem Mem.perm {L2 : List Seg} (M : Mem base h L R) (p : L2.flatten.Perm L.flatten) : Mem base h L2 R :=
  ⟨M.wf, M.nx, M.sub, M.no, fun q hq => M.own q (p.mem_iff.1 hq), (p.map Prod.fst).nodup_iff.2 M.nd, M.res, M.rnd⟩
theorem flatten_erase : ∀ {L : List Seg} {i : Nat}, L[i]? = some S → (S :: L.eraseIdx i).flatten.Perm L.flatten := by
  intro L
  induction L with
  | nil => intro i h; simp at h
  | cons T L ih =>
    intro i h
    cases i with
    | zero => simp at h; subst h; exact List.Perm.refl _
    | succ i =>
      simp at h
      have := ih h
      simp only [List.eraseIdx_cons_succ, List.flatten_cons] at this ⊢
      refine (List.Perm.trans ?_ (List.Perm.append_left T this))
      rw [← List.append_assoc, ← List.append_assoc]
      exact List.Perm.append_right _ List.perm_append_comm
theorem Mem.focus (M : Mem base h L R) (i : Nat) (hi : L[i]? = some S) : Mem base h (S :: L.eraseIdx i) R := M.perm (flatten_erase hi)
theorem Mem.nils (M : Mem base h L R) : Mem base h ([] :: L) R := M.perm (by simp)
theorem mem_flatten {p : Nat × Blk} {i : Nat} (hi : L[i]? = some S) (hp : p ∈ S) : p ∈ L.flatten := List.mem_flatten.2 ⟨S, List.mem_of_getElem? hi, hp⟩
theorem Mem.at {p : Nat} {B : Blk} (M : Mem base h L R) (i : Nat) (hi : L[i]? = some [(p, B)]) : h.get p = some B := (M.own (p, B) (mem_flatten hi (List.mem_singleton.2 rfl))).1
theorem Mem.alloc (M : Mem base h L R) (B : Blk) : Mem base (h.alloc B) ([(h.next, B)] :: L) R := by
  have hn : h.get h.next = none := by
    cases e : h.get h.next with
    | none => rfl
    | some B => have := M.wf _ _ e; omega
  have hb : base.get h.next = none := by
    cases e : base.get h.next with
    | none => rfl
    | some B => rw [M.sub _ _ e] at hn; cases hn
  refine ⟨fun n B' e => ?_, Nat.le_trans M.nx (Nat.le_succ _), fun n B' e => ?_, fun n hn2 e => ?_, fun p hp => ?_, ?_, fun n hn2 => ?_, M.rnd⟩
  · rw [H.get_alloc] at e; show n < h.next + 1
    split at e
    · omega
    · have := M.wf _ _ e; omega
  · exact H.get_old (M.wf _ _ (M.sub _ _ e)) (M.sub _ _ e)
  · rw [H.get_alloc]; have := M.nx
    rw [if_neg (by omega)]; exact M.no n hn2 e
  · rw [List.flatten_cons, List.mem_append] at hp
    rcases hp with hp | hp
    · rw [List.mem_singleton] at hp; subst hp
      exact ⟨H.get_new .., M.nx, hb⟩
    · obtain ⟨a, b, c⟩ := M.own p hp
      exact ⟨H.get_old (M.wf _ _ a) a, b, c⟩
  · rw [List.flatten_cons, List.map_append, List.nodup_append]
    refine ⟨by simp, M.nd, fun a ha b hb => ?_⟩
    simp at ha; subst ha
    obtain ⟨q, hq, rfl⟩ := List.mem_map.1 hb
    have := M.wf _ _ (M.own q hq).1
    omega
  · obtain ⟨a, b, c⟩ := M.res n hn2
    refine ⟨a, Nat.lt_succ_of_lt b, ?_⟩
    rw [H.get_alloc, if_neg (by omega)]; exact c
theorem nodup_reserve {rb : Nat} {ks : List Nat} (h : ks.Nodup) : (ks.map (rb + ·)).Nodup := by
  induction ks with
  | nil => simp
  | cons k ks ih =>
    rw [List.nodup_cons] at h
    rw [List.map_cons, List.nodup_cons]
    refine ⟨fun q => h.1 ?_, ih h.2⟩
    obtain ⟨j, hj, e⟩ := List.mem_map.1 q
    have : j = k := by omega
    subst this; exact hj
theorem Mem.up (M : Mem base h L []) {m : Nat} {ks : List Nat} (hk : (decide (ks.Nodup) && ks.all (fun k => decide (k < m))) = true) : Mem base (h.up m) L (ks.map (h.next + ·)) := by
  rw [Bool.and_eq_true] at hk
  refine ⟨fun n B e => Nat.lt_of_lt_of_le (M.wf n B e) (Nat.le_add_right _ _), Nat.le_trans M.nx (Nat.le_add_right _ _), M.sub, M.no, M.own, M.nd, fun n hn => ?_, nodup_reserve (of_decide_eq_true hk.1)⟩
  obtain ⟨k, hk1, rfl⟩ := List.mem_map.1 hn
  have hlt : k < m := of_decide_eq_true (List.all_eq_true.1 hk.2 k hk1)
  have := M.nx
  refine ⟨by omega, by rw [H.next_up]; omega, ?_⟩
  rw [H.get_up]
  cases e : h.get (h.next + k) with
  | none => rfl
  | some B => have := M.wf _ _ e; omega
theorem Mem.setR (M : Mem base h L R) {n : Nat} (j : Nat) (hj : R[j]? = some n) (B : Blk) : Mem base (h.set n (some B)) ([(n, B)] :: L) (R.eraseIdx j) := by
  have hm : n ∈ R := List.mem_of_getElem? hj
  obtain ⟨r1, r2, r3⟩ := M.res n hm
  have hb : base.get n = none := by
    cases e : base.get n with
    | none => rfl
    | some B => rw [M.sub _ _ e] at r3; cases r3
  refine ⟨fun m B' e => ?_, M.nx, fun m B' e => ?_, fun m hm2 e => ?_, fun p hp => ?_, ?_, fun m hm2 => ?_, M.rnd.sublist (List.eraseIdx_sublist ..)⟩
  · rw [H.get_set] at e; rw [H.next_set]
    split at e
    · rename_i q; subst q; exact r2
    · exact M.wf _ _ e
  · rw [H.get_set_ne _ _ (fun q => by subst q; rw [hb] at e; cases e)]; exact M.sub _ _ e
  · rw [H.get_set_ne _ _ (by omega)]; exact M.no m hm2 e
  · rw [List.flatten_cons, List.mem_append] at hp
    rcases hp with hp | hp
    · rw [List.mem_singleton] at hp; subst hp
      exact ⟨H.get_set_same .., r1, hb⟩
    · obtain ⟨a, b, c⟩ := M.own p hp
      refine ⟨?_, b, c⟩
      rw [H.get_set_ne _ _ (fun q => by rw [q, r3] at a; cases a)]; exact a
  · rw [List.flatten_cons, List.map_append, List.nodup_append]
    refine ⟨by simp, M.nd, fun a ha b hb2 => ?_⟩
    simp at ha; subst ha
    obtain ⟨q, hq, rfl⟩ := List.mem_map.1 hb2
    intro e
    have := (M.own q hq).1
    rw [← e, r3] at this; cases this
  · have hne : m ≠ n := by
      intro e; subst e
      have hlt := (List.getElem?_eq_some_iff.1 hj).1
      have hp := List.getElem?_eq_some_iff.1 hj
      have : (R.eraseIdx j).count m = R.count m - 1 := by
        rw [List.eraseIdx_eq_take_drop_succ]
        have e2 : R = R.take j ++ (m :: R.drop (j + 1)) := by
          rw [← hp.2, List.getElem_cons_drop, List.take_append_drop]
        have e3 : R.count m = (R.take j).count m + (1 + (R.drop (j+1)).count m) := by
          conv => lhs; rw [e2]
          rw [List.count_append, List.count_cons_self]; omega
        rw [List.count_append]; omega
      have h1 : R.count m ≤ 1 := List.nodup_iff_count.1 M.rnd m
      have h2 : 0 < (R.eraseIdx j).count m := List.count_pos_iff.2 hm2
      omega
    obtain ⟨a, b, c⟩ := M.res m ((List.eraseIdx_sublist ..).subset hm2)
    exact ⟨a, b, by rw [H.get_set_ne _ _ hne]; exact c⟩
theorem Mem.set {S1 S2 : Seg} {p : Nat} {B : Blk} (M : Mem base h ((S1 ++ (p, B) :: S2) :: L) R) (B' : Blk) : Mem base (h.set p (some B')) ((S1 ++ (p, B') :: S2) :: L) R := by
  obtain ⟨o1, o2, o3⟩ := M.own (p, B) (by simp)
  have hnd := M.nd
  have eq : ∀ X : Blk, ((S1 ++ (p, X) :: S2) :: L).flatten.map Prod.fst = S1.map Prod.fst ++ p :: (S2.map Prod.fst ++ L.flatten.map Prod.fst) := fun X => by simp
  rw [eq] at hnd
  have hne : ∀ q ∈ S1 ++ S2 ++ L.flatten, q.1 ≠ p := by
    intro q hq e
    rw [List.nodup_append, List.nodup_cons] at hnd
    obtain ⟨d1, ⟨d2, d3⟩, d4⟩ := hnd
    simp only [List.mem_append] at hq
    rcases hq with (hq | hq) | hq
    · exact d4 q.1 (List.mem_map_of_mem hq) p (List.mem_cons_self ..) e
    · exact d2 (by rw [← e]; exact List.mem_append_left _ (List.mem_map_of_mem hq))
    · exact d2 (by rw [← e]; exact List.mem_append_right _ (List.mem_map_of_mem hq))
  refine ⟨fun m X e => ?_, M.nx, fun m X e => ?_, fun m hm e => ?_, fun q hq => ?_, by rw [eq]; exact hnd, fun n hn => ?_, M.rnd⟩
  · rw [H.get_set] at e; rw [H.next_set]
    split at e
    · rename_i q; subst q; exact M.wf _ _ o1
    · exact M.wf _ _ e
  · rw [H.get_set_ne _ _ (fun q => by subst q; rw [o3] at e; cases e)]; exact M.sub _ _ e
  · have : base.next ≤ p := o2
    rw [H.get_set_ne _ _ (by omega)]; exact M.no m hm e
  · simp only [List.flatten_cons, List.mem_append, List.mem_cons] at hq
    have ot : ∀ q, q ∈ S1 ++ S2 ++ L.flatten → (h.set p (some B')).get q.1 = some q.2 ∧ base.next ≤ q.1 ∧ base.get q.1 = none := fun q hq => by
      rw [H.get_set_ne _ _ (hne q hq)]
      refine M.own q ?_
      simp only [List.flatten_cons, List.mem_append, List.mem_cons] at hq ⊢
      rcases hq with (a | a) | a
      · exact .inl (.inl a)
      · exact .inl (.inr (.inr a))
      · exact .inr a
    rcases hq with (a | a | a) | a
    · exact ot q (by simp only [List.mem_append]; exact .inl (.inl a))
    · subst a; exact ⟨H.get_set_same .., o2, o3⟩
    · exact ot q (by simp only [List.mem_append]; exact .inl (.inr a))
    · exact ot q (by simp only [List.mem_append]; exact .inr a)
  · obtain ⟨a, b, c⟩ := M.res n hn
    refine ⟨a, b, ?_⟩
    rw [H.get_set_ne _ _ (fun q => by subst q; rw [c] at o1; cases o1)]; exact c
theorem Mem.free {S1 S2 : Seg} {p : Nat} {B : Blk} (M : Mem base h ((S1 ++ (p, B) :: S2) :: L) R) : Mem base (h.set p none) ((S1 ++ S2) :: L) R := by
  have N := M.set B
  obtain ⟨o1, o2, o3⟩ := M.own (p, B) (by simp)
  have hnd := M.nd
  have eq : ((S1 ++ (p, B) :: S2) :: L).flatten.map Prod.fst = S1.map Prod.fst ++ p :: (S2.map Prod.fst ++ L.flatten.map Prod.fst) := by simp
  rw [eq] at hnd
  have hne : ∀ q ∈ S1 ++ S2 ++ L.flatten, q.1 ≠ p := by
    intro q hq e
    rw [List.nodup_append, List.nodup_cons] at hnd
    obtain ⟨d1, ⟨d2, d3⟩, d4⟩ := hnd
    simp only [List.mem_append] at hq
    rcases hq with (hq | hq) | hq
    · exact d4 q.1 (List.mem_map_of_mem hq) p (List.mem_cons_self ..) e
    · exact d2 (by rw [← e]; exact List.mem_append_left _ (List.mem_map_of_mem hq))
    · exact d2 (by rw [← e]; exact List.mem_append_right _ (List.mem_map_of_mem hq))
  refine ⟨fun m X e => ?_, M.nx, fun m X e => ?_, fun m hm e => ?_, fun q hq => ?_, ?_, fun n hn => ?_, M.rnd⟩
  · rw [H.get_set] at e; rw [H.next_set]
    split at e
    · cases e
    · exact M.wf _ _ e
  · rw [H.get_set_ne _ _ (fun q => by subst q; rw [o3] at e; cases e)]; exact M.sub _ _ e
  · have : base.next ≤ p := o2
    rw [H.get_set_ne _ _ (by omega)]; exact M.no m hm e
  · have hq2 : q ∈ S1 ++ S2 ++ L.flatten := by simpa using hq
    rw [H.get_set_ne _ _ (hne q hq2)]
    refine M.own q ?_
    simp only [List.flatten_cons, List.mem_append, List.mem_cons] at hq2 ⊢
    rcases hq2 with (a | a) | a
    · exact .inl (.inl a)
    · exact .inl (.inr (.inr a))
    · exact .inr a
  · have : ((S1 ++ S2) :: L).flatten.map Prod.fst = S1.map Prod.fst ++ (S2.map Prod.fst ++ L.flatten.map Prod.fst) := by simp
    rw [this]
    rw [List.nodup_append, List.nodup_cons] at hnd
    rw [List.nodup_append]
    exact ⟨hnd.1, hnd.2.1.2, fun a ha b hb => hnd.2.2 a ha b (List.mem_cons_of_mem _ hb)⟩
  · obtain ⟨a, b, c⟩ := M.res n hn
    refine ⟨a, b, ?_⟩
    rw [H.get_set]; split
    · rfl
    · exact c
variable {tab : Nat → Option FD} {Q : Ex → Env → H → Prop} {q : Env → H → Prop} {e e2 : Env}
def Cll (tab : Nat → Option FD) (f : Nat) (us : List Value) (h : H) (P : Value → H → Prop) : Prop := ∃ v h2, Ran tab f us h v h2 ∧ P v h2
def WC (tab : Nat → Option FD) (ic : IC) (e : Env) (h : H) (Q : Ex → Env → H → Prop) : Prop := ∃ x e2 h2, RanC tab ic e h x e2 h2 ∧ Q x e2 h2
def WS (tab : Nat → Option FD) (rb : Nat) (ss : List Step) (e : Env) (h : H) (q : Env → H → Prop) : Prop := ∃ e2 h2, RanS tab rb ss e h e2 h2 ∧ q e2 h2
theorem Cll.mono {f : Nat} {us : List Value} {P P' : Value → H → Prop} (c : Cll tab f us h P) (k : ∀ v h2, P v h2 → P' v h2) : Cll tab f us h P' := by
  obtain ⟨v, h2, r, p⟩ := c; exact ⟨v, h2, r, k _ _ p⟩
def thenQ (tab : Nat → Option FD) (b : IC) (Q : Ex → Env → H → Prop) : Ex → Env → H → Prop
  | .norm, e, h => WC tab b e h Q
  | x, e, h => Q x e h
def blockQ (id : Nat) (Q : Ex → Env → H → Prop) : Ex → Env → H → Prop
  | .exit j, e, h => if j = id then Q .norm e h else Q (.exit j) e h
  | x, e, h => Q x e h
def endQ (rs : List RV) (P : Value → H → Prop) : Ex → Env → H → Prop
  | .exit _, _, _ => False
  | _, e, h => ∃ vs, resE rs e h = some vs ∧ P (packE vs) h
theorem Cll.code {f : Nat} {F : IFun} {us : List Value} {P : Value → H → Prop} (ht : tab f = some (.code F)) (hl : us.length = F.np) (w : WC tab F.body (mkEnv 0 us) h (endQ F.rs P)) : Cll tab f us h P := by
  obtain ⟨x, e2, h2, r, k⟩ := w
  cases x with
  | norm => obtain ⟨vs, e, p⟩ := k; exact ⟨_, h2, .codeN ht hl r e, p⟩
  | exit id => exact k.elim
  | ret => obtain ⟨vs, e, p⟩ := k; exact ⟨_, h2, .codeR ht hl r e, p⟩
theorem WC.skip (k : Q .norm e h) : WC tab .skip e h Q := ⟨_, _, _, .skip, k⟩
theorem WC.ret (k : Q .ret e h) : WC tab .ret e h Q := ⟨_, _, _, .ret, k⟩
theorem WC.exit {id : Nat} (k : Q (.exit id) e h) : WC tab (.exit id) e h Q := ⟨_, _, _, .exit, k⟩
theorem WC.seq {a b : IC} (k : WC tab a e h (thenQ tab b Q)) : WC tab (.seq a b) e h Q := by
  obtain ⟨x, e2, h2, r, k⟩ := k
  cases x with
  | norm => obtain ⟨y, e3, h3, r2, k2⟩ := k; exact ⟨_, _, _, .seq r r2, k2⟩
  | exit id => exact ⟨_, _, _, .seqE r, k⟩
  | ret => exact ⟨_, _, _, .seqR r, k⟩
theorem WC.condT {c : Operand} {a b : IC} (hc : ev e c = some (.bool true)) (k : WC tab a e h Q) : WC tab (.cond c a b) e h Q := by
  obtain ⟨x, e2, h2, r, k⟩ := k; exact ⟨x, e2, h2, .condT hc r, k⟩
theorem WC.condF {c : Operand} {a b : IC} (hc : ev e c = some (.bool false)) (k : WC tab b e h Q) : WC tab (.cond c a b) e h Q := by
  obtain ⟨x, e2, h2, r, k⟩ := k; exact ⟨x, e2, h2, .condF hc r, k⟩
theorem WC.block {id : Nat} {b : IC} (k : WC tab b e h (blockQ id Q)) : WC tab (.block id b) e h Q := by
  obtain ⟨x, e2, h2, r, k⟩ := k
  cases x with
  | norm => exact ⟨_, _, _, .blockN r, k⟩
  | ret => exact ⟨_, _, _, .blockR r, k⟩
  | exit j =>
    simp only [blockQ] at k
    split at k
    · rename_i q; subst q; exact ⟨_, _, _, .blockE r, k⟩
    · rename_i q; exact ⟨_, _, _, .blockO q r, k⟩
def loopQ {σ : Type} (keep : List Nat) (E : σ → Env) (I : σ → H → Prop) (μ : σ → Nat) (s : σ) (Q : Ex → Env → H → Prop) : Ex → Env → H → Prop
  | .norm, e, h => ∃ s', norm keep e = E s' ∧ I s' h ∧ μ s' < μ s
  | x, e, h => Q x e h
theorem WC.loop {σ : Type} {keep : List Nat} {b : IC} (E : σ → Env) (I : σ → H → Prop) (μ : σ → Nat) (s0 : σ) (hn : norm keep e = E s0) (hi : I s0 h)
    (step : ∀ s h, I s h → WC tab b (E s) h (loopQ keep E I μ s Q)) : WC tab (.loop keep b) e h Q := by
  generalize hm : μ s0 = m
  induction m using Nat.strongRecOn generalizing s0 e h with
  | _ m ih =>
    obtain ⟨x, e2, h2, r, k⟩ := step s0 h hi
    cases x with
    | norm =>
      obtain ⟨s', k1, k2, k3⟩ := k
      obtain ⟨y, e3, h3, r2, p⟩ := ih (μ s') (by omega) s' k1 k2 rfl
      exact ⟨y, e3, h3, .loop hn r r2, p⟩
    | exit id => exact ⟨_, _, _, .loopE hn r, k⟩
    | ret => exact ⟨_, _, _, .loopR hn r, k⟩
theorem WC.run {ss : List Step} {keep : List Nat} (k : WS tab 0 ss e h (fun e1 h1 => Q .norm (norm keep e1) h1)) : WC tab (.run ss keep) e h Q := by
  obtain ⟨e2, h2, r, k⟩ := k; exact ⟨_, _, _, .run _ r rfl, k⟩
theorem WC.draw {m : Nat} {ss : List Step} {keep : List Nat} (M : Mem base h L []) (ks : List Nat) (hk : (decide (ks.Nodup) && ks.all (fun k => decide (k < m))) = true)
    (k : ∀ rb h1, Mem base h1 L (ks.map (rb + ·)) → WS tab rb ss e h1 (fun e1 h1 => Q .norm (norm keep e1) h1)) : WC tab (.draw m ss keep) e h Q := by
  obtain ⟨e2, h2, r, k⟩ := k h.next (h.up m) (M.up hk); exact ⟨_, _, _, .draw _ r rfl, k⟩
variable {rb : Nat} {ss : List Step} {d : Option Nat} {g : Option (Nat × Bool)}
theorem WS.nil {keep : List Nat} (e2 : Env) (hn : norm keep e = e2) (k : Q .norm e2 h) : WS tab rb [] e h (fun e1 h1 => Q .norm (norm keep e1) h1) := ⟨_, _, .nil, by show Q .norm (norm keep e) h; rw [hn]; exact k⟩
theorem WS.op {i : IOp} {v : Value} (hg : gd e g = some true) (ho : opE i e h none = some (v, h1)) (k : WS tab rb ss (put e d v) h1 q) : WS tab rb (.op d g i :: ss) e h q := by
  obtain ⟨e2, h2, r, p⟩ := k; exact ⟨e2, h2, .op hg ho r, p⟩
theorem WS.opV {i : IOp} {v : Value} (v' : Value) (hg : gd e g = some true) (ho : opE i e h none = some (v, h1)) (hv : v = v') (k : WS tab rb ss (put e d v') h1 q) : WS tab rb (.op d g i :: ss) e h q := by
  subst hv; exact .op hg ho k
theorem WS.off {i : IOp} (hg : gd e g = some false) (k : WS tab rb ss (put e d undef) h q) : WS tab rb (.op d g i :: ss) e h q := by
  obtain ⟨e2, h2, r, p⟩ := k; exact ⟨e2, h2, .off hg r, p⟩
theorem WS.offC {c : CK} {xs : List Operand} (hg : gd e g = some false) (k : WS tab rb ss (put e d undef) h q) : WS tab rb (.call d g c xs :: ss) e h q := by
  obtain ⟨e2, h2, r, p⟩ := k; exact ⟨e2, h2, .offC hg r, p⟩
theorem WS.chkOff {i : IOp} {n : Nat} (hg : gd e g = some false) (k : WS tab rb ss e h q) : WS tab rb (.chk n g i :: ss) e h q := by
  obtain ⟨e2, h2, r, p⟩ := k; exact ⟨e2, h2, .chkOff hg r, p⟩
theorem WS.chk {i : IOp} {n : Nat} {v : Value} (hg : gd e g = some true) (ho : opE i e h none = some (v, h1)) (hl : look e n = some v) (hp : sameV v v = true) (k : WS tab rb ss e h q) : WS tab rb (.chk n g i :: ss) e h q := by
  obtain ⟨e2, h2, r, p⟩ := k; exact ⟨e2, h2, .chk hg ho hl hp r, p⟩
theorem WS.call {c : CK} {xs : List Operand} {vs us : List Value} {f : Nat} {P : Value → H → Prop} (hg : gd e g = some true) (hx : evs e xs = some vs) (hw : whom c e vs = some (f, us)) (hc : Cll tab f us h P) (k : ∀ v h2, P v h2 → WS tab rb ss (put e d v) h2 q) : WS tab rb (.call d g c xs :: ss) e h q := by
  obtain ⟨v, h2, r, p⟩ := hc
  obtain ⟨e3, h3, r2, p2⟩ := k v h2 p
  exact ⟨e3, h3, .call hg hx hw r r2, p2⟩
theorem WS.box {x : Operand} {v : Value} (M : Mem base h L R) (cs : List Value) (hg : gd e g = some true) (hx : ev e x = some v) (hc : v.cells.toList = cs) (ho : cs.all (·.oneCell') = true)
    (k : ∀ p h1, Mem base h1 ([(p, ⟨cs, 0, false⟩)] :: L) R → WS tab rb ss (put e d (.pointer (some ⟨p, 0, none⟩))) h1 q) : WS tab rb (.op d g (.box x) :: ss) e h q :=
  .op hg (op_box h.next hx hc ho rfl) (k _ _ (M.alloc _))
theorem WS.new {z : List Value} (M : Mem base h L R) (hg : gd e g = some true)
    (k : ∀ p h1, Mem base h1 ([(p, ⟨z, 0, false⟩)] :: L) R → WS tab rb ss (put e d (.pointer (some ⟨p, 0, none⟩))) h1 q) : WS tab rb (.op d g (.new z) :: ss) e h q :=
  .op hg (op_new h.next rfl) (k _ _ (M.alloc _))
theorem WS.bsl {es len : Nat} {z : List Value} {ps : List (Nat × Nat × Operand)} {l : List (Nat × Nat × Value)} (M : Mem base h L R) (cs : List Value) (hg : gd e g = some true) (hp : evp e ps = some l) (hf : fillL z l = some cs) (ho : cs.all (·.oneCell') = true)
    (k : ∀ p h1, Mem base h1 ([(p, ⟨cs, es, false⟩)] :: L) R → WS tab rb ss (put e d (.slice (some ⟨p, 0, none⟩) len (2 * len + 1))) h1 q) : WS tab rb (.op d g (.bsl es len z ps) :: ss) e h q :=
  .op hg (op_bsl h.next hp hf ho rfl) (k _ _ (M.alloc _))
theorem WS.newA {n : Nat} {z : List Value} (M : Mem base h L R) (j : Nat) (hj : R[j]? = some (rb + n)) (hg : gd e g = some true)
    (k : ∀ h1, Mem base h1 ([(rb + n, ⟨z, 0, false⟩)] :: L) (R.eraseIdx j) → WS tab rb ss (put e d (.pointer (some ⟨rb + n, 0, none⟩))) h1 q) : WS tab rb (.opA d g (.new z) n :: ss) e h q := by
  obtain ⟨e2, h2, r, p⟩ := k _ (M.setR j hj ⟨z, 0, false⟩)
  exact ⟨e2, h2, .opA hg (by simp only [opE, H.mkb]) r, p⟩
theorem WS.bslA {n es len : Nat} {z : List Value} {ps : List (Nat × Nat × Operand)} {l : List (Nat × Nat × Value)} (M : Mem base h L R) (cs : List Value) (j : Nat) (hj : R[j]? = some (rb + n)) (hg : gd e g = some true) (hp : evp e ps = some l) (hf : fillL z l = some cs) (ho : cs.all (·.oneCell') = true)
    (k : ∀ h1, Mem base h1 ([(rb + n, ⟨cs, es, false⟩)] :: L) (R.eraseIdx j) → WS tab rb ss (put e d (.slice (some ⟨rb + n, 0, none⟩) len (2 * len + 1))) h1 q) : WS tab rb (.opA d g (.bsl es len z ps) n :: ss) e h q := by
  obtain ⟨e2, h2, r, p⟩ := k _ (M.setR j hj ⟨cs, es, false⟩)
  exact ⟨e2, h2, .opA hg (op_bslA (rb + n) hp hf ho rfl) r, p⟩
theorem op_ld {x : Operand} {p off : Nat} {B : Blk} {v : Value} (hb : h.get p = some B) (hx : ev e x = some (.pointer (some ⟨p, off, none⟩))) (hc : B.cells[off]? = some v) : opE (.ld1 x) e h none = some (v, h) := op_ld1 hx (ld_at hb hc)
theorem op_lds {x : Operand} {p off n : Nat} {B : Blk} (cs : List Value) (hb : h.get p = some B) (hx : ev e x = some (.pointer (some ⟨p, off, none⟩))) (hle : off + n ≤ B.cells.length) (hc : (B.cells.drop off).take n = cs) : opE (.ldN n x) e h none = some (.agg cs.toArray, h) := by
  rw [← hc]; exact op_ldN hx (lds_at hb hle)
theorem WS.st {S1 S2 : Seg} {p off n : Nat} {B : Blk} {x y : Operand} {v : Value} (M : Mem base h ((S1 ++ (p, B) :: S2) :: L) R) (vs cs : List Value) (hg : gd e g = some true) (hx : ev e x = some (.pointer (some ⟨p, off, none⟩))) (hy : ev e y = some v) (hv : v.cells.toList = vs) (hn : vs.length = n) (hp : 0 < n) (hr : B.ro = false)
    (hle : off + n ≤ B.cells.length) (ho : vs.all (·.oneCell') = true) (hc : splice B.cells off vs = cs)
    (k : ∀ h1, Mem base h1 ((S1 ++ (p, ⟨cs, B.es, false⟩) :: S2) :: L) R → WS tab rb ss (put e d undef) h1 q) : WS tab rb (.op d g (.st n x y) :: ss) e h q := by
  have hb : h.get p = some B := (M.own (p, B) (by simp)).1
  subst hn
  refine .op hg (op_st hx hy (by rw [hv]) (h2 := h.set p (some ⟨cs, B.es, false⟩)) ?_) (k _ (M.set _))
  rw [hv, ← hc]
  match vs, hp, hle, ho with
  | v :: vs, _, hle, ho => exact sts_at hb hr hle ho
theorem op_ldH {x : Operand} {a : Addr} {v : Value} (hx : ev e x = some (.pointer (some a))) (hl : h.ld a = some v) : opE (.ld1 x) e h none = some (v, h) := op_ld1 hx hl
variable {k : IntKind} {a b : Int} {x y : Operand}
theorem op_bin2 {op : BinOp} {v w z : Value} (hx : ev e x = some v) (hy : ev e y = some w) (hv : binV op v w = some z) : opE (.bin op x y) e h none = some (z, h) := op_bin hx hy hv
theorem vb_t {p : Prop} [Decidable p] (hp : p) : Value.bool (decide p) = Value.bool true := by rw [decide_eq_true hp]
theorem vb_f {p : Prop} [Decidable p] (hp : ¬ p) : Value.bool (decide p) = Value.bool false := by rw [decide_eq_false hp]
theorem WS.lss (hg : gd e g = some true) (hx : ev e x = some (.int k a)) (hy : ev e y = some (.int k b)) (kt : a < b → WS tab rb ss (put e d (.bool true)) h q) (kf : b ≤ a → WS tab rb ss (put e d (.bool false)) h q) : WS tab rb (.op d g (.bin .lss x y) :: ss) e h q := by
  by_cases c : a < b
  · exact .opV _ hg (op_bin2 (z := .bool (decide (a < b))) hx hy (by simp [binV])) (vb_t c) (kt c)
  · exact .opV _ hg (op_bin2 (z := .bool (decide (a < b))) hx hy (by simp [binV])) (vb_f c) (kf (by omega))
theorem WS.gtr (hg : gd e g = some true) (hx : ev e x = some (.int k a)) (hy : ev e y = some (.int k b)) (kt : b < a → WS tab rb ss (put e d (.bool true)) h q) (kf : a ≤ b → WS tab rb ss (put e d (.bool false)) h q) : WS tab rb (.op d g (.bin .gtr x y) :: ss) e h q := by
  by_cases c : a > b
  · exact .opV _ hg (op_bin2 (z := .bool (decide (a > b))) hx hy (by simp [binV])) (vb_t c) (kt c)
  · exact .opV _ hg (op_bin2 (z := .bool (decide (a > b))) hx hy (by simp [binV])) (vb_f c) (kf (by omega))
theorem WS.geq (hg : gd e g = some true) (hx : ev e x = some (.int k a)) (hy : ev e y = some (.int k b)) (kt : b ≤ a → WS tab rb ss (put e d (.bool true)) h q) (kf : a < b → WS tab rb ss (put e d (.bool false)) h q) : WS tab rb (.op d g (.bin .geq x y) :: ss) e h q := by
  by_cases c : a ≥ b
  · exact .opV _ hg (op_bin2 (z := .bool (decide (a ≥ b))) hx hy (by simp [binV])) (vb_t c) (kt c)
  · exact .opV _ hg (op_bin2 (z := .bool (decide (a ≥ b))) hx hy (by simp [binV])) (vb_f c) (kf (by omega))
theorem WS.eql (hg : gd e g = some true) (hx : ev e x = some (.int k a)) (hy : ev e y = some (.int k b)) (kt : a = b → WS tab rb ss (put e d (.bool true)) h q) (kf : a ≠ b → WS tab rb ss (put e d (.bool false)) h q) : WS tab rb (.op d g (.bin .eql x y) :: ss) e h q := by
  by_cases c : a = b
  · exact .opV _ hg (op_bin2 (z := .bool (a == b)) hx hy (by simp [binV])) (by simp [c]) (kt c)
  · exact .opV _ hg (op_bin2 (z := .bool (a == b)) hx hy (by simp [binV])) (by simp [c]) (kf c)
theorem WS.neq (hg : gd e g = some true) (hx : ev e x = some (.int k a)) (hy : ev e y = some (.int k b)) (kt : a ≠ b → WS tab rb ss (put e d (.bool true)) h q) (kf : a = b → WS tab rb ss (put e d (.bool false)) h q) : WS tab rb (.op d g (.bin .neq x y) :: ss) e h q := by
  by_cases c : a = b
  · exact .opV _ hg (op_bin2 (z := .bool (a != b)) hx hy (by simp [binV])) (by simp [c]) (kf c)
  · exact .opV _ hg (op_bin2 (z := .bool (a != b)) hx hy (by simp [binV])) (by simp [c]) (kt c)
def bs (l : List UInt8) : ByteArray := ⟨l.toArray⟩
theorem bs_of (s : ByteArray) : ∃ l, s = bs l := ⟨s.data.toList, by cases s; simp [bs]⟩
theorem bs_size (l : List UInt8) : (bs l).size = l.length := by simp [bs, ByteArray.size]
theorem bs_append (l m : List UInt8) : bs l ++ bs m = bs (l ++ m) := by
  apply ByteArray.ext; simp [bs]
theorem bs_toList_loop (l : List UInt8) : ∀ (k i : Nat) (acc : List UInt8), i + k = l.length → ByteArray.toList.loop (bs l) i acc = acc.reverse ++ l.drop i := by
  intro k
  induction k with
  | zero =>
    intro i acc hi
    unfold ByteArray.toList.loop
    rw [bs_size, if_neg (by omega), List.drop_of_length_le (by omega), List.append_nil]
  | succ k ih =>
    intro i acc hi
    unfold ByteArray.toList.loop
    rw [bs_size, if_pos (by omega), ih (i + 1) _ (by omega), List.reverse_cons, List.append_assoc]
    congr 1
    have hget : (bs l).get! i = l[i] := by
      show (l.toArray)[i]! = l[i]
      simp [getElem!_pos, show i < l.length by omega]
    rw [hget, List.drop_eq_getElem_cons (show i < l.length by omega)]; rfl
theorem bs_toList (l : List UInt8) : (bs l).toList = l := by
  show ByteArray.toList.loop (bs l) 0 [] = l
  rw [bs_toList_loop l l.length 0 [] (by omega)]; simp
theorem bs_extract (l : List UInt8) (i j : Nat) : (bs l).extract i j = bs ((l.take j).drop i) := by
  apply ByteArray.ext; simp [bs, List.drop_take]
theorem bs_get (l : List UInt8) (i : Nat) : (bs l)[i]? = l[i]? := by
  by_cases h : i < l.length
  · rw [List.getElem?_eq_getElem h, getElem?_pos (bs l) i (by rw [bs_size]; exact h)]; simp [bs]; rfl
  · rw [List.getElem?_eq_none (by omega), getElem?_neg (bs l) i (by rw [bs_size]; exact h)]
theorem WS.seql {l m : List UInt8} (hg : gd e g = some true) (hx : ev e x = some (.string (bs l))) (hy : ev e y = some (.string (bs m))) (kt : l = m → WS tab rb ss (put e d (.bool true)) h q) (kf : l ≠ m → WS tab rb ss (put e d (.bool false)) h q) : WS tab rb (.op d g (.bin .eql x y) :: ss) e h q := by
  have hv : binV .eql (.string (bs l)) (.string (bs m)) = some (.bool (l == m)) := by simp only [binV, bs_toList]
  by_cases c : l = m
  · exact .opV _ hg (op_bin2 hx hy hv) (by simp [c]) (kt c)
  · exact .opV _ hg (op_bin2 hx hy hv) (by simp [c]) (kf c)
theorem WS.sneq {l m : List UInt8} (hg : gd e g = some true) (hx : ev e x = some (.string (bs l))) (hy : ev e y = some (.string (bs m))) (kt : l ≠ m → WS tab rb ss (put e d (.bool true)) h q) (kf : l = m → WS tab rb ss (put e d (.bool false)) h q) : WS tab rb (.op d g (.bin .neq x y) :: ss) e h q := by
  have hv : binV .neq (.string (bs l)) (.string (bs m)) = some (.bool !(l == m)) := by simp only [binV, bs_toList]
  by_cases c : l = m
  · exact .opV _ hg (op_bin2 hx hy hv) (by simp [c]) (kf c)
  · exact .opV _ hg (op_bin2 hx hy hv) (by simp [c]) (kt c)
theorem op_sadd {l m : List UInt8} (hx : ev e x = some (.string (bs l))) (hy : ev e y = some (.string (bs m))) (hn : l.length + m.length ≤ 4398046511104) : opE (.bin .add x y) e h none = some (.string (bs (l ++ m)), h) := by
  refine op_bin2 hx hy ?_
  simp only [binV, bs_size]; rw [if_pos hn, bs_append]
theorem op_lenS {l : List UInt8} (hx : ev e x = some (.string (bs l))) : opE (.lenS x) e h none = some (.int .i64 (l.length : Int), h) := by simp only [opE, hx, bs_size]
theorem op_ixS {l : List UInt8} {c : UInt8} (i : Nat) (hx : ev e x = some (.string (bs l))) (hy : ev e y = some (.int k (i : Int))) (hc : l[i]? = some c) : opE (.ixS x y) e h none = some (.int .u8 (c.toNat : Int), h) := by
  simp only [opE, hx, hy]; rw [if_pos (by omega), Int.toNat_natCast, bs_get, hc]
theorem op_slS {l : List UInt8} {lo hi : Option Operand} (a b : Option Nat) (hx : ev e x = some (.string (bs l))) (ha : bnd e lo = some a) (hb : bnd e hi = some b) (h1 : a.getD 0 ≤ b.getD l.length) (h2 : b.getD l.length ≤ l.length) : opE (.slS x lo hi) e h none = some (.string (bs ((l.take (b.getD l.length)).drop (a.getD 0))), h) := by
  simp only [opE, hx, ha, hb, bs_size]; rw [if_pos ⟨h1, h2⟩, bs_extract]
theorem bnd_nat {i : Nat} (hx : ev e x = some (.int k (i : Int))) : bnd e (some x) = some (some i) := by
  simp only [bnd, hx]; rw [if_pos (by omega)]; simp
theorem op_slS0 {l : List UInt8} (i : Nat) (hx : ev e x = some (.string (bs l))) (hy : ev e y = some (.int k (i : Int))) (hi : i ≤ l.length) : opE (.slS x (some y) none) e h none = some (.string (bs (l.drop i)), h) := by
  have := op_slS (h := h) (hi := none) (some i) none hx (bnd_nat hy) rfl (by simpa using hi) (by simp)
  simpa using this
theorem op_slS1 {l : List UInt8} (i : Nat) (hx : ev e x = some (.string (bs l))) (hy : ev e y = some (.int k (i : Int))) (hi : i ≤ l.length) : opE (.slS x none (some y)) e h none = some (.string (bs (l.take i)), h) := by
  have := op_slS (h := h) (lo := none) none (some i) hx rfl (bnd_nat hy) (by simp) (by simpa using hi)
  simpa using this
theorem op_slS2 {l : List UInt8} {z : Operand} {k2 : IntKind} (i j : Nat) (hx : ev e x = some (.string (bs l))) (hy : ev e y = some (.int k (i : Int))) (hz : ev e z = some (.int k2 (j : Int))) (hi : i ≤ j) (hj : j ≤ l.length) : opE (.slS x (some y) (some z)) e h none = some (.string (bs ((l.take j).drop i)), h) := by
  have := op_slS (h := h) (some i) (some j) hx (bnd_nat hy) (bnd_nat hz) (by simpa using hi) (by simpa using hj)
  simpa using this
theorem bytesL_bs : ∀ (l : List UInt8) (s : ByteArray), bytesL (l.map fun b => Value.int .u8 (b.toNat : Int)) s = some (s ++ bs l) := by
  intro l
  induction l with
  | nil => intro s; simp [bytesL, bs]; apply ByteArray.ext; simp
  | cons b l ih =>
    intro s
    simp only [List.map_cons, bytesL]
    rw [ih]
    congr 1
    apply ByteArray.ext
    simp [bs, ByteArray.data_push]
theorem op_cvB {p off n c : Nat} {B : Blk} {l : List UInt8} (hb : h.get p = some B) (hx : ev e x = some (.slice (some ⟨p, off, none⟩) n c)) (hn : l.length = n) (hle : off + n ≤ B.cells.length) (hc : (B.cells.drop off).take n = l.map fun b => Value.int .u8 (b.toNat : Int)) : opE (.cvB x) e h none = some (.string (bs l), h) := by
  simp only [opE, hx]; rw [lds_at hb hle, hc]; simp only [bytesL_bs]
  have : ByteArray.empty ++ bs l = bs l := by apply ByteArray.ext; simp
  simp only [this]
theorem op_iaV2 {p n c es : Nat} {o : Nat} (j : Nat) (hx : ev e x = some (.slice (some ⟨p, o, none⟩) n c)) (hi : ev e y = some (.int k (j : Int))) (hj : j < n) : opE (.iaV es x y) e h none = some (.pointer (some ⟨p, o + j * es, none⟩), h) := op_iaV j hx hi hj
end Go.Proofs.Ytkfjlbdedjoojaa.Am
namespace Go.Proofs.Ytkfjlbdedjoojaa.Am
open Go
set_option linter.unusedVariables false
set_option linter.unusedSimpArgs false
variable {base h h1 h2 h3 : H} {L L' : List Seg} {R : List Nat} {S : Seg}
variable {tab : Nat → Option FD} {Q : Ex → Env → H → Prop} {q : Env → H → Prop} {e e2 : Env}
variable {rb : Nat} {ss : List Step} {d : Option Nat} {g : Option (Nat × Bool)}
theorem Mem.name (M : Mem base h L R) : ∃ L', L' = L ∧ Mem base h L' R := ⟨L, rfl, M⟩
theorem Mem.name1 (M : Mem base h (S :: L) R) : ∃ L', L' = L ∧ Mem base h (S :: L') R := ⟨L, rfl, M⟩
theorem Mem.name2 {S2 : Seg} (M : Mem base h (S :: S2 :: L) R) : ∃ L', L' = L ∧ Mem base h (S :: S2 :: L') R := ⟨L, rfl, M⟩
theorem Mem.name3 {S2 S3 : Seg} (M : Mem base h (S :: S2 :: S3 :: L) R) : ∃ L', L' = L ∧ Mem base h (S :: S2 :: S3 :: L') R := ⟨L, rfl, M⟩
theorem Mem.take (M : Mem base h L R) (k : Nat) : Mem base h (L.take k) R := by
  have hs : (L.take k).flatten.Sublist L.flatten := by
    conv => rhs; rw [← List.take_append_drop k L, List.flatten_append]
    exact List.sublist_append_left ..
  exact ⟨M.wf, M.nx, M.sub, M.no, fun p hp => M.own p (hs.subset hp), M.nd.sublist (hs.map _), M.res, M.rnd⟩
theorem WC.env {ic : IC} (e2 : Env) (he : e = e2) (k : WC tab ic e2 h Q) : WC tab ic e h Q := by rw [he]; exact k
theorem res_nil : resE [] e h = some [] := rfl
theorem res_tmp {t : Nat} {rs : List RV} {v : Value} {vs : List Value} (hl : look e t = some v) (k : resE rs e h = some vs) : resE (.tmp t :: rs) e h = some (v :: vs) := by simp only [resE, hl, k]
theorem res_cellN {t p off n : Nat} {rs : List RV} {B : Blk} {vs : List Value} (cs : List Value) (hl : look e t = some (.pointer (some ⟨p, off, none⟩))) (hb : h.get p = some B) (hle : off + n ≤ B.cells.length) (hc : (B.cells.drop off).take n = cs) (k : resE rs e h = some vs) : resE (.cell t (some n) :: rs) e h = some (.agg cs.toArray :: vs) := by
  simp only [resE, hl, lds_at hb hle, hc, k]
theorem WS.st1 {p off n es : Nat} {cells : List Value} {x y : Operand} {v : Value} (M : Mem base h ([(p, ⟨cells, es, false⟩)] :: L) R) (vs cs : List Value) (hg : gd e g = some true) (hx : ev e x = some (.pointer (some ⟨p, off, none⟩))) (hy : ev e y = some v) (hv : v.cells.toList = vs) (hn : vs.length = n) (hp : 0 < n)
    (hle : off + n ≤ cells.length) (ho : vs.all (·.oneCell') = true) (hc : splice cells off vs = cs)
    (k : ∀ h1, Mem base h1 ([(p, ⟨cs, es, false⟩)] :: L) R → WS tab rb ss (put e d undef) h1 q) : WS tab rb (.op d g (.st n x y) :: ss) e h q :=
  WS.st (S1 := []) (S2 := []) M vs cs hg hx hy hv hn hp rfl hle ho hc k
theorem WS.nil' (k : q e h) : WS tab rb [] e h q := ⟨_, _, .nil, k⟩
theorem WC.joinB {ss : List Step} {keep : List Nat} (E : Bool → Env) (L : List Seg) (Pt Pf : Prop) (w : WS tab 0 ss e h (fun e1 h1 => ∃ b, norm keep e1 = E b ∧ Mem base h1 L [] ∧ (b = true → Pt) ∧ (b = false → Pf)))
    (kt : ∀ h1, Mem base h1 L [] → Pt → Q .norm (E true) h1) (kf : ∀ h1, Mem base h1 L [] → Pf → Q .norm (E false) h1) : WC tab (.run ss keep) e h Q := by
  refine .run ?_
  obtain ⟨e2, h2, r, b, k1, k2, k3, k4⟩ := w
  refine ⟨e2, h2, r, ?_⟩
  show Q .norm (norm keep e2) h2
  rw [k1]
  cases b with
  | true => exact kt _ k2 (k3 rfl)
  | false => exact kf _ k2 (k4 rfl)
theorem WS.lssN {x y : Operand} {k : IntKind} {a b : Nat} (hg : gd e g = some true) (hx : ev e x = some (.int k (a : Int))) (hy : ev e y = some (.int k (b : Int))) (kt : a < b → WS tab rb ss (put e d (.bool true)) h q) (kf : b ≤ a → WS tab rb ss (put e d (.bool false)) h q) : WS tab rb (.op d g (.bin .lss x y) :: ss) e h q :=
  .lss hg hx hy (fun c => kt (by omega)) (fun c => kf (by omega))
theorem WS.gtrN {x y : Operand} {k : IntKind} {a b : Nat} (hg : gd e g = some true) (hx : ev e x = some (.int k (a : Int))) (hy : ev e y = some (.int k (b : Int))) (kt : b < a → WS tab rb ss (put e d (.bool true)) h q) (kf : a ≤ b → WS tab rb ss (put e d (.bool false)) h q) : WS tab rb (.op d g (.bin .gtr x y) :: ss) e h q :=
  .gtr hg hx hy (fun c => kt (by omega)) (fun c => kf (by omega))
theorem WS.eqlN {x y : Operand} {k : IntKind} {a b : Nat} (hg : gd e g = some true) (hx : ev e x = some (.int k (a : Int))) (hy : ev e y = some (.int k (b : Int))) (kt : a = b → WS tab rb ss (put e d (.bool true)) h q) (kf : a ≠ b → WS tab rb ss (put e d (.bool false)) h q) : WS tab rb (.op d g (.bin .eql x y) :: ss) e h q :=
  .eql hg hx hy (fun c => kt (by omega)) (fun c => kf (by omega))
theorem WS.neqN {x y : Operand} {k : IntKind} {a b : Nat} (hg : gd e g = some true) (hx : ev e x = some (.int k (a : Int))) (hy : ev e y = some (.int k (b : Int))) (kt : a ≠ b → WS tab rb ss (put e d (.bool true)) h q) (kf : a = b → WS tab rb ss (put e d (.bool false)) h q) : WS tab rb (.op d g (.bin .neq x y) :: ss) e h q :=
  .neq hg hx hy (fun c => kt (by omega)) (fun c => kf (by omega))
theorem wu64 (n : Int) : IntKind.u64.wrap n = n % 18446744073709551616 := by simp [IntKind.wrap, IntKind.bits, IntKind.signed]
theorem cv_u64 {n : Nat} (h : n < 18446744073709551616) : Value.int .u64 (IntKind.u64.wrap (n : Int)) = .int .u64 (n : Int) := by
  congr 1; rw [wu64]; omega
theorem cv_i64 {n : Nat} (h : n < 9223372036854775808) : Value.int .i64 (IntKind.i64.wrap (n : Int)) = .int .i64 (n : Int) := by
  congr 1; rw [IntKind.wrap_i64]; omega
theorem add_i64 {a b : Nat} (h : a + b < 9223372036854775808) : Value.int .i64 (IntKind.i64.wrap ((a : Int) + (b : Int))) = .int .i64 ((a + b : Nat) : Int) := by
  congr 1; rw [IntKind.wrap_i64]; omega
theorem sub_i64 {a b : Nat} (h : b ≤ a ∧ a < 9223372036854775808) : Value.int .i64 (IntKind.i64.wrap ((a : Int) - (b : Int))) = .int .i64 ((a - b : Nat) : Int) := by
  congr 1; rw [IntKind.wrap_i64]; omega
theorem add_u64 {a b : Nat} (h : a + b < 18446744073709551616) : Value.int .u64 (IntKind.u64.wrap ((a : Int) + (b : Int))) = .int .u64 ((a + b : Nat) : Int) := by
  congr 1; rw [wu64]; omega
theorem sub_u64 {a b : Nat} (h : b ≤ a ∧ a < 18446744073709551616) : Value.int .u64 (IntKind.u64.wrap ((a : Int) - (b : Int))) = .int .u64 ((a - b : Nat) : Int) := by
  congr 1; rw [wu64]; omega
theorem op_slA0 {x y : Operand} {p o n es : Nat} {k : IntKind} (i : Nat) (hx : ev e x = some (.pointer (some ⟨p, o, none⟩))) (hy : ev e y = some (.int k (i : Int))) (hi : i ≤ n) : opE (.slA n es x (some y) none none) e h none = some (.slice (some ⟨p, o + i * es, none⟩) (n - i) (2 * (n - i) + 1), h) := by
  simp only [opE, hx, bnd_nat hy]
  show (if _ then _ else _) = _
  rw [if_pos]
  · rfl
  · simp; omega
theorem u8_ofNat {n : Nat} : Value.int .u8 (IntKind.u8.wrap (n : Int)) = .int .u8 ((UInt8.ofNat n).toNat : Int) := by
  congr 1
theorem rem_k {k : IntKind} {a b : Nat} : Value.int k (Int.tmod (a : Int) (b : Int)) = .int k ((a % b : Nat) : Int) := by
  congr 1
theorem quo_u64 {a b : Nat} (h : a < 18446744073709551616) : Value.int .u64 (IntKind.u64.wrap (Int.tdiv (a : Int) (b : Int))) = .int .u64 ((a / b : Nat) : Int) := by
  have h1 : a / b ≤ a := Nat.div_le_self ..
  have h2 : Int.tdiv (a : Int) (b : Int) = ((a / b : Nat) : Int) := rfl
  rw [h2]; exact cv_u64 (by omega)
theorem quo_i64 {a b : Nat} (h : a < 9223372036854775808) : Value.int .i64 (IntKind.i64.wrap (Int.tdiv (a : Int) (b : Int))) = .int .i64 ((a / b : Nat) : Int) := by
  have h1 : a / b ≤ a := Nat.div_le_self ..
  have h2 : Int.tdiv (a : Int) (b : Int) = ((a / b : Nat) : Int) := rfl
  rw [h2]; exact cv_i64 (by omega)
def At (h : H) (b o : Nat) (cs : List Value) : Prop := ∃ B, h.get b = some B ∧ o + cs.length ≤ B.cells.length ∧ (B.cells.drop o).take cs.length = cs
theorem At.mono {b o : Nat} {cs : List Value} (A : At h b o cs) (hs : ∀ n B, h.get n = some B → h2.get n = some B) : At h2 b o cs := by
  obtain ⟨B, e1, e2, e3⟩ := A; exact ⟨B, hs _ _ e1, e2, e3⟩
theorem At.ld {b o k : Nat} {cs : List Value} {v : Value} (A : At h b o cs) (hc : cs[k]? = some v) : h.ld ⟨b, o + k, none⟩ = some v := by
  obtain ⟨B, e1, e2, e3⟩ := A
  have hk := (List.getElem?_eq_some_iff.1 hc).1
  refine ld_at e1 ?_
  rw [← e3, List.getElem?_take, if_pos hk, List.getElem?_drop] at hc; exact hc
theorem At.ld0 {b o : Nat} {cs : List Value} {v : Value} (A : At h b o cs) (hc : cs[0]? = some v) : h.ld ⟨b, o, none⟩ = some v := A.ld (k := 0) hc
theorem At.lds {b o : Nat} {cs : List Value} (A : At h b o cs) : h.lds ⟨b, o, none⟩ cs.length = some cs := by
  obtain ⟨B, e1, e2, e3⟩ := A; rw [lds_at e1 e2, e3]
theorem At.ldsub {b o k n : Nat} {cs cs2 : List Value} (A : At h b o cs) (hc : (cs.drop k).take n = cs2) (hn : k + n ≤ cs.length) : h.lds ⟨b, o + k, none⟩ n = some cs2 := by
  obtain ⟨B, e1, e2, e3⟩ := A
  rw [lds_at e1 (by omega), ← hc, ← e3, List.drop_take, List.take_take, List.drop_drop]
  congr 1; congr 1; omega
theorem op_ldAt {x : Operand} {b o n : Nat} {cs : List Value} (hx : ev e x = some (.pointer (some ⟨b, o, none⟩))) (A : At h b o cs) (hn : cs.length = n) : opE (.ldN n x) e h none = some (.agg cs.toArray, h) := by
  subst hn; exact op_ldN hx A.lds
theorem op_cvBs {x : Operand} {p c n : Nat} {es : Nat} {ro : Bool} {l : List UInt8} (hb : h.get p = some ⟨l.map fun b => Value.int .u8 (b.toNat : Int), es, ro⟩) (hx : ev e x = some (.slice (some ⟨p, 0, none⟩) n c)) (hn : l.length = n) : opE (.cvB x) e h none = some (.string (bs l), h) :=
  op_cvB hb hx hn (by simp; omega) (by subst hn; rw [List.drop_zero, List.take_of_length_le (by simp)])
theorem At.elem {α : Type} {K : Row α} {l : List α} {b o j : Nat} {y : α} (A : At h b o (K.flat l)) (hy : l[j]? = some y) : At h b (o + j * K.n) (K.cells y) := by
  obtain ⟨B, e1, e2, e3⟩ := A
  have hj := (List.getElem?_eq_some_iff.1 hy).1
  have := Nat.mul_le_mul_right K.n (show j + 1 ≤ l.length by omega)
  rw [Nat.add_mul, Nat.one_mul] at this
  rw [K.flat_length] at e2
  refine ⟨B, e1, by rw [K.len]; omega, ?_⟩
  rw [← K.flat_get l j y hy, ← e3, K.flat_length, List.drop_take, List.take_take, List.drop_drop]
  congr 1
  simp; omega
section
variable {α : Type} (K : Row α)
inductive Row.Sl (h : H) : Value → List α → Prop
  | nil : Row.Sl h (.slice none 0 0) []
  | emp (a : Addr) (c : Nat) : Row.Sl h (.slice (some a) 0 c) []
  | row (b o c : Nat) (l : List α) (ha : At h b o (K.flat l)) : Row.Sl h (.slice (some ⟨b, o, none⟩) l.length c) l
variable {K} {V : Value} {l : List α}
theorem Row.Sl.mono (A : K.Sl h V l) (hs : ∀ n B, h.get n = some B → h2.get n = some B) : K.Sl h2 V l := by
  cases A with
  | nil => exact .nil
  | emp a c => exact .emp a c
  | row b o c l ha => exact .row b o c l (ha.mono hs)
theorem Row.Sl.shape (A : K.Sl h V l) : ∃ P c, V = .slice P l.length c := by
  cases A <;> exact ⟨_, _, rfl⟩
theorem op_lenVS {x : Operand} {h0 : H} (A : K.Sl h0 V l) (hx : ev e x = some V) : opE (.lenV x) e h none = some (.int .i64 (l.length : Int), h) := by
  obtain ⟨P, c, rfl⟩ := A.shape
  simp only [opE, hx]
theorem WS.iaVS {x i : Operand} {k : IntKind} {h0 : H} {es : Nat} (A : K.Sl h0 V l) (j : Nat) {y : α} (hy : l[j]? = some y) (hg : gd e g = some true) (hx : ev e x = some V) (hi : ev e i = some (.int k (j : Int))) (hes : es = K.n)
    (w : ∀ b o, At h0 b o (K.cells y) → WS tab rb ss (put e d (.pointer (some ⟨b, o, none⟩))) h q) : WS tab rb (.op d g (.iaV es x i) :: ss) e h q := by
  subst hes
  have hj := (List.getElem?_eq_some_iff.1 hy).1
  cases A with
  | nil => simp at hj
  | emp a c => simp at hj
  | row b o c l ha => exact .op hg (op_iaV2 j hx hi hj) (w _ _ (ha.elem hy))
theorem Row.Sl.own {b c es : Nat} {ro : Bool} (hb : h.get b = some ⟨K.flat l, es, ro⟩) : K.Sl h (.slice (some ⟨b, 0, none⟩) l.length c) l :=
  .row b 0 c l ⟨_, hb, by simp, by simp⟩
variable (K)
inductive Row.Own : Value → List α → Seg → Prop
  | nil : Row.Own (.slice none 0 0) [] []
  | row (p : Nat) (l : List α) (hne : l ≠ []) : Row.Own (.slice (some ⟨p, 0, none⟩) l.length (2 * l.length)) l [(p, ⟨K.flat l, K.n, false⟩)]
structure Row.Src (h : H) (y : Value) (m : List α) : Prop where
  len : srcLen y = some m.length
  cells : srcCells h K.n m.length y = some (K.flat m)
variable {K} {m : List α} {y : Value}
theorem Row.Src.one {b c es : Nat} {ro : Bool} (hb : h.get b = some ⟨K.flat m, es, ro⟩) : K.Src h (.slice (some ⟨b, 0, none⟩) m.length c) m := by
  refine ⟨rfl, ?_⟩
  simp only [srcCells]
  rw [lds_at hb (by rw [K.flat_length]; simp), List.drop_zero, List.take_of_length_le (by rw [K.flat_length]; exact Nat.le_refl _)]
theorem Row.Src.sl (A : K.Sl h y m) : K.Src h y m := by
  cases A with
  | nil => exact ⟨rfl, by simp [srcCells, Row.flat]⟩
  | emp a c => exact ⟨rfl, by simp [srcCells, Row.flat, H.lds]⟩
  | row b o c l ha =>
    refine ⟨rfl, ?_⟩
    have := ha.lds
    rw [K.flat_length] at this
    exact this
theorem Row.Own.sl {S : Seg} (O : K.Own V l S) (M : ∀ p ∈ S, h.get p.1 = some p.2) : K.Sl h V l := by
  cases O with
  | nil => exact .nil
  | row p l hne => exact .own (M _ (List.mem_singleton.2 rfl))
theorem Mem.own0 (M : Mem base h (S :: L) R) : ∀ p ∈ S, h.get p.1 = some p.2 := fun p hp => (M.own p (by simp only [List.flatten_cons, List.mem_append]; exact .inl hp)).1
theorem Mem.owni (M : Mem base h L R) (i : Nat) (hi : L[i]? = some S) : ∀ p ∈ S, h.get p.1 = some p.2 := fun p hp => (M.own p (mem_flatten hi hp)).1
theorem WS.app {S : Seg} {x z : Operand} {bytes es : Nat} (O : K.Own V l S) (M : Mem base h (S :: L) R) (A : K.Src h y m) (hes : es = K.n) (hb : (l.length + m.length) * bytes ≤ 140737488355328) (hn : l.length + m.length ≤ 4398046511104) (hg : gd e g = some true) (hx : ev e x = some V) (hy : ev e z = some y)
    (k : ∀ V' S' h1, K.Own V' (l ++ m) S' → Mem base h1 (S' :: L) R → WS tab rb ss (put e d V') h1 q) : WS tab rb (.op d g (.app es bytes x z) :: ss) e h q := by
  subst hes
  obtain ⟨a1, a2⟩ := A
  have hall := plain1_one (K.flat_plain m)
  cases O with
  | nil =>
    by_cases c : m = []
    · subst c
      refine .op hg (op_app hx hy (r := (.slice none 0 0, h)) ?_) (k _ [] _ .nil M)
      simp only [appE, a1, a2]; rfl
    · have hm : m.length ≠ 0 := fun e => c (List.eq_nil_of_length_eq_zero e)
      refine .op hg (op_app hx hy (r := (.slice (some ⟨h.next, 0, none⟩) m.length (2 * m.length), h.alloc ⟨K.flat m, K.n, false⟩)) ?_) (k _ _ _ (by rw [List.nil_append]; exact .row h.next m c) (Mem.perm (M.alloc _) (by simp)))
      simp only [appE, a1, a2]
      simp only [List.length_nil, Nat.zero_add] at hb hn
      rw [if_neg hm, if_pos ⟨hb, hn, hall⟩]; rfl
  | row p l hne =>
    have hg2 : h.get p = some ⟨K.flat l, K.n, false⟩ := M.own0 _ (List.mem_singleton.2 rfl)
    by_cases c : m = []
    · subst c
      refine .op hg (op_app hx hy (r := (.slice (some ⟨p, 0, none⟩) l.length (2 * l.length), h)) ?_) (k _ _ _ (by rw [List.append_nil]; exact .row p l hne) M)
      simp only [List.length_nil] at a1 a2
      simp only [appE, a1, a2, Nat.add_zero]
      rw [if_pos (by omega)]; rfl
    · have hm : m.length ≠ 0 := fun e => c (List.eq_nil_of_length_eq_zero e)
      have M2 := (Mem.free (S1 := []) (S2 := []) M).alloc ⟨K.flat (l ++ m), K.n, false⟩
      refine .op hg (op_app hx hy (r := (.slice (some ⟨h.next, 0, none⟩) (l.length + m.length) (2 * (l.length + m.length)), (h.set p none).alloc ⟨K.flat (l ++ m), K.n, false⟩)) ?_) (k _ [(h.next, ⟨K.flat (l ++ m), K.n, false⟩)] _ ?_ (Mem.perm M2 (by simp [H.next_set])))
      · simp only [appE, a1, a2]
        rw [if_neg (by omega), if_pos ⟨hb, hn, hall⟩, lds_at hg2 (by rw [K.flat_length]; simp)]
        simp only
        rw [if_neg (by omega)]
        simp only [hg2]
        rw [if_pos ⟨trivial, trivial, trivial⟩, List.drop_zero, List.take_of_length_le (by rw [K.flat_length]; exact Nat.le_refl _), K.flat_append]
      · have := Row.Own.row (K := K) h.next (l ++ m) (by simp [hne])
        rw [List.length_append] at this; exact this
theorem Row.Own.shape {S : Seg} (O : K.Own V l S) : ∃ P, V = .slice P l.length (2 * l.length) := by cases O <;> exact ⟨_, rfl⟩
theorem op_lenVO {x : Operand} {S : Seg} (O : K.Own V l S) (hx : ev e x = some V) : opE (.lenV x) e h none = some (.int .i64 (l.length : Int), h) := by
  obtain ⟨P, rfl⟩ := O.shape
  simp only [opE, hx]
end
def KU64 : Row UInt64 := ⟨fun x => [.int .u64 ((x.toNat : Nat) : Int)], 1, fun _ => rfl, by decide, fun _ => rfl⟩
def KU8 : Row UInt8 := ⟨fun x => [.int .u8 ((x.toNat : Nat) : Int)], 1, fun _ => rfl, by decide, fun _ => rfl⟩
def KStr : Row (List UInt8) := ⟨fun x => [.string (bs x)], 1, fun _ => rfl, by decide, fun _ => rfl⟩
theorem KU8_flat (l : List UInt8) : KU8.flat l = l.map fun b => Value.int .u8 ((b.toNat : Nat) : Int) := by
  induction l with
  | nil => rfl
  | cons b l ih => rw [KU8.flat_cons, ih]; rfl
theorem op_cvBO {x : Operand} {V : Value} {l : List UInt8} {S : Seg} (O : KU8.Own V l S) (M : ∀ p ∈ S, h.get p.1 = some p.2) (hx : ev e x = some V) : opE (.cvB x) e h none = some (.string (bs l), h) := by
  cases O with
  | nil => simp only [opE, hx]; rfl
  | row p l hne =>
    have hb := M _ (List.mem_singleton.2 rfl)
    simp only [KU8_flat] at hb
    exact op_cvBs hb hx rfl
theorem u64_ofNat {n : Nat} (h : n < 18446744073709551616) : Value.int .u64 (n : Int) = .int .u64 ((UInt64.ofNat n).toNat : Int) := by
  rw [UInt64.toNat_ofNat']; congr 2; omega
section
variable {α : Type} {K : Row α}
end
theorem same1_self : ∀ {v : Value}, v.oneCell' = true → (∃ P n c, v = .slice P n c) ∨ plain1 v = true → same1 v v = true := by
  rintro v - (⟨P, n, c, rfl⟩ | h)
  · cases P <;> simp [same1, sameA]
  · exact same1_refl h
def KNat : Row Nat := ⟨fun n => [.int .u64 (n : Int)], 1, fun _ => rfl, by decide, fun _ => rfl⟩
end Go.Proofs.Ytkfjlbdedjoojaa.Am
namespace Go.Proofs.Ytkfjlbdedjoojaa.Am
open Go
set_option linter.unusedVariables false
set_option linter.unusedSimpArgs false
section
variable {base h h1 h2 h3 : H} {L L' : List Seg} {R : List Nat} {S : Seg}
variable {tab : Nat → Option FD} {Q : Ex → Env → H → Prop} {q : Env → H → Prop} {e e2 : Env}
variable {rb : Nat} {ss : List Step} {d : Option Nat} {g : Option (Nat × Bool)}
variable {α : Type} {K : Row α} {V y : Value} {l m : List α}
variable (K) in
theorem splice_flat {l m j : List α} (hm : m.length ≤ j.length) : splice (K.flat (l ++ j)) (l.length * K.n) (K.flat m) = K.flat (l ++ m ++ j.drop m.length) := by
  have e1 : l.length * K.n = (K.flat l).length := by rw [K.flat_length]
  have e2 : (K.flat m).length = (K.flat (j.take m.length)).length := by rw [K.flat_length, K.flat_length, List.length_take]; congr 1; omega
  have e3 : K.flat j = K.flat (j.take m.length) ++ K.flat (j.drop m.length) := by rw [← K.flat_append, List.take_append_drop]
  unfold splice
  rw [e1, K.flat_append, List.take_left, ← List.drop_drop, List.drop_left, e2, e3, List.drop_left, K.flat_append, K.flat_append]
theorem op_slVG {x z : Operand} {k : IntKind} {p : Nat} {l j : List α} {es : Nat} (i : Nat) (hes : es = K.n) (hb : h.get p = some ⟨K.flat (l ++ j), K.n, false⟩) (hx : ev e x = some (.slice (some ⟨p, 0, none⟩) l.length (2 * (l ++ j).length))) (hz : ev e z = some (.int k (i : Int))) (hi : i ≤ l.length) : opE (.slV es x none (some z) none) e h none = some (.slice (some ⟨p, 0, none⟩) i (2 * (l ++ j).length), h) := by
  subst hes
  have hlj : (l ++ j).length = l.length + j.length := List.length_append
  have hnn : bnd e none = some none := rfl
  simp only [opE, hx, bnd_nat hz, hnn, Option.getD_some, Option.getD_none]
  rw [if_pos ⟨by omega, by omega, by omega, by simp⟩, if_neg (by simp)]
  simp only [hb, if_true, Nat.zero_mul, Nat.zero_add, Nat.sub_zero]
  congr 3
  omega
theorem Row.flat_setN {l : List α} {j : Nat} {y' : α} (hj : j < l.length) : splice (K.flat l) (j * K.n) (K.cells y') = K.flat (l.set j y') := by
  have h1 := splice_flat (K := K) (l := l.take j) (m := [y']) (j := l.drop j) (by simp; omega)
  rw [List.take_append_drop, List.length_take, Nat.min_eq_left (by omega)] at h1
  rw [show K.cells y' = K.flat [y'] by simp [Row.flat], h1, List.set_eq_take_append_cons_drop, if_pos hj, List.drop_drop]
  simp
theorem WS.stN {p j es n : Nat} {l : List α} {y' : α} {v : Value} {x z : Operand} (M : Mem base h ([(p, ⟨K.flat l, es, false⟩)] :: L) R) (hj : j < l.length) (hg : gd e g = some true) (hx : ev e x = some (.pointer (some ⟨p, 0 + j * K.n, none⟩))) (hz : ev e z = some v) (hv : v.cells.toList = K.cells y') (hn : n = K.n)
    (w : ∀ h1, Mem base h1 ([(p, ⟨K.flat (l.set j y'), es, false⟩)] :: L) R → WS tab rb ss (put e d undef) h1 q) : WS tab rb (.op d g (.st n x z) :: ss) e h q := by
  subst hn
  have hle : 0 + j * K.n + K.n ≤ (K.flat l).length := by
    rw [K.flat_length]
    have := Nat.mul_le_mul_right K.n (show j + 1 ≤ l.length by omega)
    rw [Nat.add_mul, Nat.one_mul] at this; omega
  have hall : (K.cells y').all (·.oneCell') = true := by
    have := plain1_one (K.flat_plain [y'])
    simpa [Row.flat] using this
  exact WS.st1 M (K.cells y') (K.flat (l.set j y')) hg hx hz hv (by rw [K.len]) K.pos hle hall (by rw [Nat.zero_add]; exact Row.flat_setN hj) w
end
end Go.Proofs.Ytkfjlbdedjoojaa.Am
namespace Go.Proofs.Ytkfjlbdedjoojaa.Am
open Go
set_option linter.unusedVariables false
set_option linter.unusedSimpArgs false
theorem VR.back {r s : Rho} (hle : r.le s) {v v' : Value} (h : VR r v v') : ∀ {v'' : Value}, VR s v v'' → VR r v v'' := by
  induction h with
  | bool b => intro v'' k; cases k; exact .bool b
  | int j n => intro v'' k; cases k; exact .int j n
  | string t => intro v'' k; cases k; exact .string t
  | ptr0 => intro v'' k; cases k; exact .ptr0
  | ptr h =>
    intro v'' k
    cases k with
    | ptr k =>
      obtain ⟨h0, L, h1, h2⟩ := h
      obtain ⟨k0, M, k1, k2⟩ := k
      have := hle _ _ h1
      rw [k1] at this; cases this
      exact .ptr ⟨h0, L, h1, k2⟩
  | sl0 => intro v'' k; cases k; exact .sl0
  | sl h h1 h2 h3 h4 =>
    rename_i a a' n c c'
    intro v'' k
    cases k with
    | sl k k1 k2 k3 k4 =>
      refine .sl ?_ k1 k2 k3 (fun e => ?_)
      · rcases k with ⟨k0, M, km, ke⟩ | k
        · rcases h with ⟨_, L, hL, _⟩ | h
          · have := hle _ _ hL
            rw [km] at this; cases this
            exact .inl ⟨k0, _, hL, ke⟩
          · by_cases e : c % 2 = 0
            · obtain ⟨L, hL, _⟩ := h4 e
              have := hle _ _ hL
              rw [km] at this; cases this
              exact .inl ⟨k0, _, hL, ke⟩
            · right
              have q1 := h3 (by omega); have q2 := k3 (by omega); omega
        · exact .inr k
      · obtain ⟨L, hL, _⟩ := h4 e
        obtain ⟨M, hM, q⟩ := k4 e
        have := hle _ _ hL
        rw [hM] at this; cases this
        exact ⟨_, hL, q⟩
  | func fn hx h1 hy h2 i1 i2 =>
    intro v'' k
    cases k with
    | func _ kx k1 ky k2 =>
      refine .func fn kx (fun i u u'' a b => ?_) ky (fun i u u'' a b => ?_)
      · have hi := (Array.getElem?_eq_some_iff.1 a).1
        exact i1 i u _ a (Array.getElem?_eq_getElem (by omega)) (k1 i u u'' a b)
      · have hi := (Array.getElem?_eq_some_iff.1 a).1
        exact i2 i u _ a (Array.getElem?_eq_getElem (by omega)) (k2 i u u'' a b)
  | func0 => intro v'' k; cases k; exact .func0
  | iface t _ ih => intro v'' k; cases k with | iface _ k => exact .iface t (ih k)
  | iface0 => intro v'' k; cases k; exact .iface0
  | agg hx h1 ih =>
    intro v'' k
    cases k with
    | agg kx k1 =>
      refine .agg kx (fun i u u'' a b => ?_)
      have hi := (Array.getElem?_eq_some_iff.1 a).1
      exact ih i u _ a (Array.getElem?_eq_getElem (by omega)) (k1 i u u'' a b)
  | tuple hx h1 ih =>
    intro v'' k
    cases k with
    | tuple kx k1 =>
      refine .tuple kx (fun i u u'' a b => ?_)
      have hi := (Array.getElem?_eq_some_iff.1 a).1
      exact ih i u _ a (Array.getElem?_eq_getElem (by omega)) (k1 i u u'' a b)
structure Ext (r : Rho) (N : Nat) (r' : Rho) (N' : Nat) : Prop where
  le : r.le r'
  nx : N ≤ N'
  new : ∀ n, N' ≤ n → r' n = none
  old : ∀ n, n < N → r' n = r n
theorem Ext.refl {r : Rho} {N : Nat} (h : ∀ n, N ≤ n → r n = none) : Ext r N r N := ⟨Rho.le_refl r, Nat.le_refl _, h, fun _ _ => rfl⟩
theorem Ext.trans {r r' r'' : Rho} {N N' N'' : Nat} (a : Ext r N r' N') (b : Ext r' N' r'' N'') : Ext r N r'' N'' :=
  ⟨Rho.le_trans a.le b.le, Nat.le_trans a.nx b.nx, b.new, fun n hn => (b.old n (Nat.lt_of_lt_of_le hn a.nx)).trans (a.old n hn)⟩
theorem Ext.one {r : Rho} {N : Nat} (h : ∀ n, N ≤ n → r n = none) (L : Am.Loc) : Ext r N (r.put N L) (N + 1) :=
  ⟨Rho.le_put (h N (Nat.le_refl _)), Nat.le_succ _, fun n hn => by rw [Rho.put_ne _ _ (by omega)]; exact h n (by omega), fun n hn => by rw [Rho.put_ne _ _ (by omega)]⟩
theorem ext_list {Q : Nat → Rho → Value → Prop} (hm : ∀ i r r' v, r.le r' → Q i r v → Q i r' v) : ∀ (m : Nat) (r : Rho) (N : Nat), (∀ n, N ≤ n → r n = none) → (∀ i, i < m → ∀ (r : Rho) (N : Nat), (∀ n, N ≤ n → r n = none) → ∃ r' N' u, Ext r N r' N' ∧ Q i r' u) →
    ∃ (r' : Rho) (N' : Nat) (us : List Value), Ext r N r' N' ∧ us.length = m ∧ ∀ (i : Nat) (u : Value), us[i]? = some u → Q i r' u := by
  intro m
  induction m with
  | zero => intro r N h _; exact ⟨r, N, [], Ext.refl h, rfl, fun i u e => by simp at e⟩
  | succ m ih =>
    intro r N h hq
    obtain ⟨r1, N1, us, e1, e2, e3⟩ := ih r N h (fun i hi => hq i (by omega))
    obtain ⟨r2, N2, u, f1, f2⟩ := hq m (by omega) r1 N1 e1.new
    refine ⟨r2, N2, us ++ [u], e1.trans f1, by simp [e2], fun i x hx => ?_⟩
    rw [List.getElem?_append] at hx
    split at hx
    · exact hm _ _ _ _ f1.le (e3 i x hx)
    · rename_i q
      have : i - us.length < 1 := (List.getElem?_eq_some_iff.1 hx).1
      rw [show i - us.length = 0 by omega] at hx
      cases hx
      rw [show i = m by omega]; exact f2
theorem VR.fresh {s : Rho} {v v' : Value} (h : VR s v v') : ∀ (r : Rho) (N : Nat), (∀ n, N ≤ n → r n = none) → ∃ r' N' u, Ext r N r' N' ∧ VR r' u v' ∧ u.oneCell' = v.oneCell' := by
  have arr : ∀ {x x' : Array Value}, x.size = x'.size → (∀ (i : Nat) (v v' : Value), x[i]? = some v → x'[i]? = some v' → ∀ (r : Rho) (N : Nat), (∀ n, N ≤ n → r n = none) → ∃ r' N' u, Ext r N r' N' ∧ VR r' u v' ∧ u.oneCell' = v.oneCell') →
      ∀ (r : Rho) (N : Nat), (∀ n, N ≤ n → r n = none) → ∃ (r' : Rho) (N' : Nat) (us : List Value), Ext r N r' N' ∧ us.length = x'.size ∧ ∀ (i : Nat) (u v' : Value), us[i]? = some u → x'[i]? = some v' → VR r' u v' := fun {x x'} hx ih r N hN => by
    obtain ⟨r', N', us, e1, e2, e3⟩ := ext_list (Q := fun i r u => ∀ v', x'[i]? = some v' → VR r u v') (fun i r r' v hle k v' e => (k v' e).mono hle) x'.size r N hN (fun i hi r N hN => by
      obtain ⟨r', N', u, f1, f2, _⟩ := ih i x[i] x'[i] (Array.getElem?_eq_getElem (by omega)) (Array.getElem?_eq_getElem hi) r N hN
      exact ⟨r', N', u, f1, fun v' e => by rw [Array.getElem?_eq_getElem hi] at e; cases e; exact f2⟩)
    exact ⟨r', N', us, e1, e2, fun i u v' a b => e3 i u a v' b⟩
  induction h with
  | bool b => intro r N hN; exact ⟨r, N, _, Ext.refl hN, .bool b, rfl⟩
  | int j n => intro r N hN; exact ⟨r, N, _, Ext.refl hN, .int j n, rfl⟩
  | string t => intro r N hN; exact ⟨r, N, _, Ext.refl hN, .string t, rfl⟩
  | ptr0 => intro r N hN; exact ⟨r, N, _, Ext.refl hN, .ptr0, rfl⟩
  | ptr h =>
    intro r N hN
    obtain ⟨h0, L, h1, rfl⟩ := h
    exact ⟨_, _, .pointer (some ⟨N, _, none⟩), Ext.one hN L, .ptr ⟨rfl, L, Rho.put_same .., rfl⟩, rfl⟩
  | sl0 => intro r N hN; exact ⟨r, N, _, Ext.refl hN, .sl0, rfl⟩
  | sl h h1 h2 h3 h4 =>
    rename_i a a' n c c'
    intro r N hN
    rcases h with ⟨h0, L, hL, rfl⟩ | h
    · exact ⟨_, _, .slice (some ⟨N, a.off, none⟩) n (2 * c' + 1), Ext.one hN L, .sl (.inl ⟨rfl, L, Rho.put_same .., rfl⟩) h1 (by omega) (fun _ => by omega) (fun q => by omega), rfl⟩
    · exact ⟨r, N, .slice (some ⟨N, a.off, none⟩) n (2 * c' + 1), Ext.refl hN, .sl (.inr h) h1 (by omega) (fun _ => by omega) (fun q => by omega), rfl⟩
  | func fn hx h1 hy h2 i1 i2 =>
    rename_i x x' y y'
    intro r N hN
    obtain ⟨r1, N1, us, e1, e2, e3⟩ := arr hx i1 r N hN
    obtain ⟨r2, N2, ws, f1, f2, f3⟩ := arr hy i2 r1 N1 e1.new
    exact ⟨r2, N2, .func fn us.toArray ws.toArray, e1.trans f1, .func fn (by simpa using e2) (fun i u v' a b => (e3 i u v' (by simpa using a) b).mono f1.le) (by simpa using f2) (fun i u v' a b => f3 i u v' (by simpa using a) b), rfl⟩
  | func0 => intro r N hN; exact ⟨r, N, _, Ext.refl hN, .func0, rfl⟩
  | iface t _ ih =>
    intro r N hN
    obtain ⟨r1, N1, u, e1, e2, _⟩ := ih r N hN
    exact ⟨r1, N1, .iface t u, e1, .iface t e2, rfl⟩
  | iface0 => intro r N hN; exact ⟨r, N, _, Ext.refl hN, .iface0, rfl⟩
  | agg hx h1 ih =>
    rename_i x x'
    intro r N hN
    obtain ⟨r1, N1, us, e1, e2, e3⟩ := arr hx ih r N hN
    exact ⟨r1, N1, .agg us.toArray, e1, .agg (by simpa using e2) (fun i u v' a b => e3 i u v' (by simpa using a) b), rfl⟩
  | tuple hx h1 ih =>
    rename_i x x'
    intro r N hN
    obtain ⟨r1, N1, us, e1, e2, e3⟩ := arr hx ih r N hN
    exact ⟨r1, N1, .tuple us.toArray, e1, .tuple (by simpa using e2) (fun i u v' a b => e3 i u v' (by simpa using a) b), rfl⟩
def small (nx p vb : Nat) (B Bv : Blk) : H := ((⟨.leaf, nx⟩ : H).set p (some B)).set vb (some Bv)
theorem small_get (nx p vb : Nat) (B Bv : Blk) (m : Nat) : (small nx p vb B Bv).get m = if m = vb then some Bv else if m = p then some B else none := by
  unfold small; rw [H.get_set, H.get_set]; rfl
theorem small_next (nx p vb : Nat) (B Bv : Blk) : (small nx p vb B Bv).next = nx := rfl
theorem SoundF.remake {P : Program} {tab : Nat → Option FD} (hD : DrawOK P) (ht : TabOK P tab) {f : Nat} {g : List Value → H → Option (Value × H)}
    (hg : ∀ us h v h2, g us h = some (v, h2) → ∃ (p vb : Nat) (B Bv : Blk) (n c : Nat) (rest : List Value) (n2 : Nat) (res : List Value),
      us = .slice (some ⟨p, 0, none⟩) n c :: rest ∧ h.get p = some B ∧ B.ro = false ∧ h.get vb = some Bv ∧ Bv.ro = false ∧ p ≠ vb ∧ B.cells.length = c / 2 * B.es ∧
      v = .slice (some ⟨h.next, 0, none⟩) n2 (2 * n2) ∧ h2 = ((h.set p none).set vb none).alloc ⟨res, B.es, false⟩ ∧ res.all (·.oneCell') = true ∧ (∀ x ∈ res, x ∈ B.cells ∨ x ∈ Bv.cells) ∧
      ∀ (nx C : Nat) (js : List Value), h.next ≤ nx → c / 2 ≤ C → n ≤ C → js.length = (C - c / 2) * B.es → js.all (·.oneCell') = true →
        ∃ v' h3, Ran tab f (.slice (some ⟨p, 0, none⟩) n (2 * C + 1) :: rest) (small nx p vb ⟨B.cells ++ js, B.es, false⟩ Bv) v' h3 ∧
          ∃ q c2 tl, v' = .slice (some ⟨q, 0, none⟩) n2 c2 ∧ h3.get q = some ⟨res ++ tl, B.es, false⟩ ∧ (c2 % 2 = 1 → (res ++ tl).length = c2 / 2 * B.es)) : SoundF P f g := by
  intro base r h w us us' v h2 E hv R
  obtain ⟨p, vb, B, Bv, n, c, rest, n2, res, rfl, hB, hBro, hBv, hvro, hne, hBl, rfl, rfl, hres1, hresm, hrun⟩ := hg us h v h2 E
  obtain ⟨V', hV', rV⟩ := hv.get (i := 0) (v := .slice (some ⟨p, 0, none⟩) n c) rfl
  obtain ⟨rest', rfl⟩ : ∃ rest', us' = V' :: rest' := by
    cases us' with
    | nil => cases hV'
    | cons a l => simp at hV'; subst hV'; exact ⟨l, rfl⟩
  obtain ⟨Lp, cc, et, fz, a1, a2, a3, a4, a5, a6, a7⟩ := R.cells p B hB
  obtain ⟨Lv, cv, ev_, fv, b1, b2, b3, b4, b5, b6, b7⟩ := R.cells vb Bv hBv
  obtain ⟨C, a', hC1, hC2, hC3, hCl, rfl, hVR⟩ : ∃ (C : Nat) (a' : Addr), c / 2 ≤ C ∧ n ≤ C ∧ C * B.es ≤ Lp.lim ∧ (c / 2 * B.es + (C - c / 2) * B.es = C * B.es) ∧ V' = .slice (some a') n C ∧ ∀ s : Rho, r.le s → VR s (.slice (some ⟨p, 0, none⟩) n (2 * C + 1)) (.slice (some a') n C) := by
    cases rV with
    | sl g g1 g2 g3 g4 =>
      rename_i a' c'
      refine ⟨c', a', g2, g1, ?_, ?_, rfl, fun s hs => .sl (g.imp (·.mono hs) id) g1 (by omega) (fun _ => by omega) (fun q => by omega)⟩
      · by_cases e : c % 2 = 0
        · obtain ⟨L, q1, q2⟩ := g4 e
          rw [a1] at q1; cases q1
          rw [a3] at q2; simpa using q2
        · rw [g3 (by omega), ← hBl]; exact a4
      · rw [← Nat.add_mul]; congr 1; omega
  have hhid := R.hid p B Lp cc et fz hB hBro a1 a2
  obtain ⟨r1, N1, js, X, jl, jv⟩ := ext_list (Q := fun i r u => u.oneCell' = true ∧ ∃ v', cc[Lp.o + (B.cells.length + i)]? = some v' ∧ VR r u v') (fun i r r' v hle ⟨k1, v', k2, k3⟩ => ⟨k1, v', k2, k3.mono hle⟩) ((C - c / 2) * B.es) r h.next R.new (fun i hi r N hN => by
    obtain ⟨s, u, u', q1, q2, q3⟩ := hhid.1 (B.cells.length + i) (by rw [hBl]; omega)
    obtain ⟨r', N', u2, e1, e2, e3⟩ := q3.fresh r N hN
    exact ⟨r', N', u2, e1, by rw [e3]; exact q2, u', q1, e2⟩)
  have js1 : js.all (·.oneCell') = true := List.all_eq_true.2 fun x hx => by
    obtain ⟨i, hi, rfl⟩ := List.getElem_of_mem hx
    exact (jv i _ (List.getElem?_eq_getElem hi)).1
  obtain ⟨v', h3, ⟨fuel, hran⟩, q, c2, tl, rfl, hq, hodd⟩ := hrun N1 C js X.nx hC1 hC2 jl js1
  have pick : ∀ m A, (small N1 p vb ⟨B.cells ++ js, B.es, false⟩ Bv).get m = some A → (m = vb ∧ A = Bv) ∨ (m = p ∧ A = ⟨B.cells ++ js, B.es, false⟩) := fun m A e => by
    rw [small_get] at e
    split at e
    · cases e; exact .inl ⟨by assumption, rfl⟩
    · split at e
      · cases e; exact .inr ⟨by assumption, rfl⟩
      · cases e
  have x1 := X.le _ _ a1
  have x2 := X.le _ _ b1
  have hneL : Lp.b ≠ Lv.b := R.inj p vb B Bv Lp Lv hB hBv hne hBro a1 b1
  have R0 : Rel base r1 (small N1 p vb ⟨B.cells ++ js, B.es, false⟩ Bv) w := by
    refine ⟨fun m A e => ?_, fun m k A A2 L M e1 e2 hmk _ e3 e4 => ?_, fun m hm => X.new m hm, R.size, fun m A L e hro _ => ?_, fun m A L c' e' fz' e1 e2 e3 e4 => ?_⟩
    · rcases pick m A e with ⟨rfl, rfl⟩ | ⟨rfl, rfl⟩
      · exact ⟨Lv, cv, ev_, fv, x2, b2, b3, b4, b5, b6, fun i u hu => by obtain ⟨k1, u', k2, k3⟩ := b7 i u hu; exact ⟨k1, u', k2, k3.mono X.le⟩⟩
      · refine ⟨Lp, cc, et, fz, x1, a2, a3, by simp only [List.length_append, jl, hBl]; omega, a5, fun _ => a6 hBro, fun i u hu => ?_⟩
        simp only at hu
        rw [List.getElem?_append] at hu
        split at hu
        · obtain ⟨k1, u', k2, k3⟩ := a7 i u hu; exact ⟨k1, u', k2, k3.mono X.le⟩
        · obtain ⟨k1, u', k2, k3⟩ := jv _ u hu
          exact ⟨k1, u', by rw [← k2]; congr 2; omega, k3⟩
    · rcases pick m A e1 with ⟨rfl, rfl⟩ | ⟨rfl, rfl⟩ <;> rcases pick k A2 e2 with ⟨rfl, rfl⟩ | ⟨rfl, rfl⟩
      · exact absurd rfl hmk
      · rw [x2] at e3; cases e3; rw [x1] at e4; cases e4; exact hneL.symm
      · rw [x1] at e3; cases e3; rw [x2] at e4; cases e4; exact hneL
      · exact absurd rfl hmk
    · rcases pick m A e with ⟨rfl, rfl⟩ | ⟨rfl, rfl⟩
      · rw [hvro] at hro; cases hro
      · cases hro
    · rcases pick m A e1 with ⟨rfl, rfl⟩ | ⟨rfl, rfl⟩
      · rw [x2] at e3; cases e3; exact R.hid _ A Lv c' e' fz' hBv e2 b1 e4
      · rw [x1] at e3; cases e3; exact R.hid _ B Lp c' e' fz' hB hBro a1 e4
  have hv0 : VL r1 (.slice (some ⟨p, 0, none⟩) n (2 * C + 1) :: rest) (.slice (some a') n C :: rest') := by
    refine VL.cons (hVR r1 X.le) ⟨by have := hv.1; simpa using this, fun i u u' e1 e2 => (hv.2 (i + 1) u u' (by simpa using e1) (by simpa using e2)).mono X.le⟩
  obtain ⟨hc, hcalls⟩ := run_table hD ht fuel f base r1 _ w _ _ _ h3 hran hv0 R0
  refine ⟨hc, hcalls.mono fun x w2 hx => ?_⟩
  obtain ⟨r2, v'', rfl, hvv, R3, F, _⟩ := hx
  obtain ⟨Lq, cq, eq_, fq, k1, k2, k3, k4, k5, k6, k7⟩ := R3.cells q _ hq
  have hle12 : r.le r2 := Rho.le_trans X.le F.le
  have hnone : r h.next = none := R.new _ (Nat.le_refl _)
  have hle : r.le (r.put h.next Lq) := Rho.le_put hnone
  have hlt : ∀ m A M, h.get m = some A → r m = some M → M.b < w.heap.size := fun m A M g1 g2 => by
    obtain ⟨M', _, _, _, z1, z2, _⟩ := R.cells m A g1
    rw [g2] at z1; cases z1; exact (Array.getElem?_eq_some_iff.1 z2).1
  have hget : ∀ m A, (((h.set p none).set vb none).alloc ⟨res, B.es, false⟩).get m = some A → (m = h.next ∧ A = ⟨res, B.es, false⟩) ∨ (m ≠ h.next ∧ m ≠ p ∧ m ≠ vb ∧ h.get m = some A) := fun m A e => by
    rw [H.get_alloc, H.get_set, H.get_set, H.next_set, H.next_set] at e
    split at e
    · rename_i z; cases e; exact .inl ⟨z, rfl⟩
    · rename_i z
      split at e
      · cases e
      · rename_i z2
        split at e
        · cases e
        · rename_i z3; exact .inr ⟨z, z3, z2, e⟩
  have hsame : ∀ m A M, m ≠ p → m ≠ vb → h.get m = some A → r m = some M → w2.heap[M.b]? = w.heap[M.b]? := fun m A M z1 z2 z3 z4 => F.keep M.b (hlt m A M z3 z4) (fun m' A' M' j1 _ j3 => by
    rcases pick m' A' j1 with ⟨rfl, _⟩ | ⟨rfl, _⟩
    · rw [x2] at j3; cases j3; exact R.inj _ m Bv A _ M hBv z3 (fun e => z2 e.symm) hvro b1 z4
    · rw [x1] at j3; cases j3; exact R.inj _ m B A _ M hB z3 (fun e => z1 e.symm) hBro a1 z4)
  have hcross : ∀ m A M, m ≠ p → m ≠ vb → h.get m = some A → r m = some M → Lq.b ≠ M.b := fun m A M z1 z2 z3 z4 e => by
    obtain ⟨m', A', M', j1, _, j3, j4⟩ := F.cov q _ Lq hq rfl k1 (by rw [e]; exact hlt m A M z3 z4)
    rcases pick m' A' j1 with ⟨rfl, _⟩ | ⟨rfl, _⟩
    · rw [x2] at j3; cases j3; exact R.inj _ m Bv A _ M hBv z3 (fun e => z2 e.symm) hvro b1 z4 (j4.trans e)
    · rw [x1] at j3; cases j3; exact R.inj _ m B A _ M hB z3 (fun e => z1 e.symm) hBro a1 z4 (j4.trans e)
  refine ⟨r.put h.next Lq, v'', rfl, ?_, ⟨fun m A e => ?_, fun m k A A2 L M e1 e2 hmk hro e3 e4 => ?_, fun m hm => ?_, R3.size, fun m A M e hro e2 => ?_, fun m A M c' e' fz' e1 e2 e3 e4 => ?_⟩, ⟨hle, by show h.next ≤ h.next + 1; omega, F.size, F.os, F.tape, F.output, fun b hb hno => ?_, fun m A M e hro e2 hl => ?_⟩, fun m hm _ hr => ?_⟩
  · cases hvv with
    | sl g g1 g2 g3 g4 =>
      refine .sl (g.imp (fun g => ?_) id) g1 (by omega) (fun q => by omega) (fun _ => ⟨Lq, Rho.put_same .., ?_⟩)
      · obtain ⟨_, M, m1, m2⟩ := g
        rw [k1] at m1; cases m1
        exact ⟨rfl, Lq, Rho.put_same .., m2⟩
      · by_cases e : c2 % 2 = 0
        · obtain ⟨M, m1, m2⟩ := g4 e
          rw [k1] at m1; cases m1; exact m2
        · have h1 := hodd (by omega)
          rw [g3 (by omega), k3]; simp only [Nat.zero_add]
          rw [← h1]; exact k4
  · rcases hget m A e with ⟨rfl, rfl⟩ | ⟨z1, z2, z3, z4⟩
    · refine ⟨Lq, cq, eq_, fq, Rho.put_same .., k2, k3, ?_, k5, fun _ => k6 rfl, fun i u hu => ?_⟩
      · simp only [List.length_append] at k4 ⊢; omega
      · simp only at hu
        have hi := (List.getElem?_eq_some_iff.1 hu).1
        obtain ⟨j1, u'', j2, j3⟩ := k7 i u (by simp only; rw [List.getElem?_append_left hi]; exact hu)
        refine ⟨j1, u'', j2, ?_⟩
        have hold : ∃ u', VR r u u' := by
          rcases hresm u (List.mem_of_getElem? hu) with hm | hm
          · obtain ⟨i2, hi2, rfl⟩ := List.getElem_of_mem hm
            obtain ⟨_, u', _, y⟩ := a7 i2 _ (List.getElem?_eq_getElem hi2); exact ⟨u', y⟩
          · obtain ⟨i2, hi2, rfl⟩ := List.getElem_of_mem hm
            obtain ⟨_, u', _, y⟩ := b7 i2 _ (List.getElem?_eq_getElem hi2); exact ⟨u', y⟩
        obtain ⟨u', y⟩ := hold
        exact (VR.back hle12 y j3).mono hle
    · obtain ⟨M, c', e', f', j1, j2, j3, j4, j5, j6, j7⟩ := R.cells m A z4
      refine ⟨M, c', e', f', hle _ _ j1, by rw [hsame m A M z2 z3 z4 j1]; exact j2, j3, j4, j5, j6, fun i u hu => ?_⟩
      obtain ⟨y1, u', y2, y3⟩ := j7 i u hu
      exact ⟨y1, u', y2, y3.mono hle⟩
  · rcases hget m A e1 with ⟨rfl, rfl⟩ | ⟨z1, z2, z3, z4⟩
    · rcases hget k A2 e2 with ⟨rfl, _⟩ | ⟨y1, y2, y3, y4⟩
      · exact absurd rfl hmk
      · rw [Rho.put_same] at e3; cases e3
        rw [Rho.put_ne _ _ y1] at e4
        exact hcross k A2 M y2 y3 y4 e4
    · rw [Rho.put_ne _ _ z1] at e3
      rcases hget k A2 e2 with ⟨rfl, _⟩ | ⟨y1, y2, y3, y4⟩
      · rw [Rho.put_same] at e4; cases e4
        exact (hcross m A L z2 z3 z4 e3).symm
      · rw [Rho.put_ne _ _ y1] at e4
        exact R.inj m k A A2 L M z4 y4 hmk hro e3 e4
  · have : h.next + 1 ≤ m := hm
    rw [Rho.put_ne _ _ (by omega)]; exact R.new m (by omega)
  · rcases hget m A e with ⟨rfl, rfl⟩ | ⟨z1, z2, z3, z4⟩
    · cases hro
    · rw [Rho.put_ne _ _ z1] at e2; exact R.ro m A M z4 hro e2
  · rcases hget m A e1 with ⟨rfl, rfl⟩ | ⟨z1, z2, z3, z4⟩
    · rw [Rho.put_same] at e3; cases e3
      exact R3.hid q _ Lq c' e' fz' hq rfl k1 e4
    · rw [Rho.put_ne _ _ z1] at e3
      rw [hsame m A M z2 z3 z4 e3] at e4
      exact R.hid m A M c' e' fz' z4 e2 e3 e4
  · refine F.keep b hb (fun m' A' M' j1 _ j3 => ?_)
    rcases pick m' A' j1 with ⟨rfl, _⟩ | ⟨rfl, _⟩
    · rw [x2] at j3; cases j3; exact hno _ Bv _ hBv hvro b1
    · rw [x1] at j3; cases j3; exact hno _ B _ hB hBro a1
  · rcases hget m A e with ⟨rfl, rfl⟩ | ⟨z1, z2, z3, z4⟩
    · rw [Rho.put_same] at e2; cases e2
      obtain ⟨m', A', M', j1, _, j3, j4⟩ := F.cov q _ Lq hq rfl k1 hl
      rcases pick m' A' j1 with ⟨rfl, _⟩ | ⟨rfl, _⟩
      · rw [x2] at j3; cases j3; exact ⟨_, Bv, Lv, hBv, hvro, b1, j4⟩
      · rw [x1] at j3; cases j3; exact ⟨_, B, Lp, hB, hBro, a1, j4⟩
    · rw [Rho.put_ne _ _ z1] at e2; exact ⟨m, A, M, z4, hro, e2, rfl⟩
  · rw [Rho.put_ne _ _ (by omega)]; exact hr
def small1 (nx p : Nat) (B : Blk) : H := ((⟨.leaf, nx⟩ : H).set p (some B))
theorem small1_get (nx p : Nat) (B : Blk) (m : Nat) : (small1 nx p B).get m = if m = p then some B else none := by
  unfold small1; rw [H.get_set]; rfl
theorem small1_next (nx p : Nat) (B : Blk) : (small1 nx p B).next = nx := rfl
theorem SoundF.remake1 {P : Program} {tab : Nat → Option FD} (hD : DrawOK P) (ht : TabOK P tab) {f : Nat} {g : List Value → H → Option (Value × H)}
    (hg : ∀ us h v h2, g us h = some (v, h2) → ∃ (p : Nat) (B : Blk) (n c : Nat) (rest : List Value) (n2 : Nat) (res : List Value),
      us = .slice (some ⟨p, 0, none⟩) n c :: rest ∧ h.get p = some B ∧ B.ro = false ∧ B.cells.length = c / 2 * B.es ∧
      v = .slice (some ⟨h.next, 0, none⟩) n2 (2 * n2) ∧ h2 = (h.set p none).alloc ⟨res, B.es, false⟩ ∧ res.all (·.oneCell') = true ∧ (∀ x ∈ res, x ∈ B.cells) ∧
      ∀ (nx C : Nat) (js : List Value), h.next ≤ nx → c / 2 ≤ C → n ≤ C → js.length = (C - c / 2) * B.es → js.all (·.oneCell') = true →
        ∃ v' h3, Ran tab f (.slice (some ⟨p, 0, none⟩) n (2 * C + 1) :: rest) (small1 nx p ⟨B.cells ++ js, B.es, false⟩) v' h3 ∧
          ∃ q c2 tl, v' = .slice (some ⟨q, 0, none⟩) n2 c2 ∧ h3.get q = some ⟨res ++ tl, B.es, false⟩ ∧ (c2 % 2 = 1 → (res ++ tl).length = c2 / 2 * B.es)) : SoundF P f g := by
  intro base r h w us us' v h2 E hv R
  obtain ⟨p, B, n, c, rest, n2, res, rfl, hB, hBro, hBl, rfl, rfl, hres1, hresm, hrun⟩ := hg us h v h2 E
  obtain ⟨V', hV', rV⟩ := hv.get (i := 0) (v := .slice (some ⟨p, 0, none⟩) n c) rfl
  obtain ⟨rest', rfl⟩ : ∃ rest', us' = V' :: rest' := by
    cases us' with
    | nil => cases hV'
    | cons a l => simp at hV'; subst hV'; exact ⟨l, rfl⟩
  obtain ⟨Lp, cc, et, fz, a1, a2, a3, a4, a5, a6, a7⟩ := R.cells p B hB
  obtain ⟨C, a', hC1, hC2, hC3, hCl, rfl, hVR⟩ : ∃ (C : Nat) (a' : Addr), c / 2 ≤ C ∧ n ≤ C ∧ C * B.es ≤ Lp.lim ∧ (c / 2 * B.es + (C - c / 2) * B.es = C * B.es) ∧ V' = .slice (some a') n C ∧ ∀ s : Rho, r.le s → VR s (.slice (some ⟨p, 0, none⟩) n (2 * C + 1)) (.slice (some a') n C) := by
    cases rV with
    | sl g g1 g2 g3 g4 =>
      rename_i a' c'
      refine ⟨c', a', g2, g1, ?_, ?_, rfl, fun s hs => .sl (g.imp (·.mono hs) id) g1 (by omega) (fun _ => by omega) (fun q => by omega)⟩
      · by_cases e : c % 2 = 0
        · obtain ⟨L, q1, q2⟩ := g4 e
          rw [a1] at q1; cases q1
          rw [a3] at q2; simpa using q2
        · rw [g3 (by omega), ← hBl]; exact a4
      · rw [← Nat.add_mul]; congr 1; omega
  have hhid := R.hid p B Lp cc et fz hB hBro a1 a2
  obtain ⟨r1, N1, js, X, jl, jv⟩ := ext_list (Q := fun i r u => u.oneCell' = true ∧ ∃ v', cc[Lp.o + (B.cells.length + i)]? = some v' ∧ VR r u v') (fun i r r' v hle ⟨k1, v', k2, k3⟩ => ⟨k1, v', k2, k3.mono hle⟩) ((C - c / 2) * B.es) r h.next R.new (fun i hi r N hN => by
    obtain ⟨s, u, u', q1, q2, q3⟩ := hhid.1 (B.cells.length + i) (by rw [hBl]; omega)
    obtain ⟨r', N', u2, e1, e2, e3⟩ := q3.fresh r N hN
    exact ⟨r', N', u2, e1, by rw [e3]; exact q2, u', q1, e2⟩)
  have js1 : js.all (·.oneCell') = true := List.all_eq_true.2 fun x hx => by
    obtain ⟨i, hi, rfl⟩ := List.getElem_of_mem hx
    exact (jv i _ (List.getElem?_eq_getElem hi)).1
  obtain ⟨v', h3, ⟨fuel, hran⟩, q, c2, tl, rfl, hq, hodd⟩ := hrun N1 C js X.nx hC1 hC2 jl js1
  have pick : ∀ m A, (small1 N1 p ⟨B.cells ++ js, B.es, false⟩).get m = some A → (m = p ∧ A = ⟨B.cells ++ js, B.es, false⟩) := fun m A e => by
    rw [small1_get] at e
    split at e
    · cases e; exact ⟨by assumption, rfl⟩
    · cases e
  have x1 := X.le _ _ a1
  have R0 : Rel base r1 (small1 N1 p ⟨B.cells ++ js, B.es, false⟩) w := by
    refine ⟨fun m A e => ?_, fun m k A A2 L M e1 e2 hmk _ e3 e4 => ?_, fun m hm => X.new m hm, R.size, fun m A L e hro _ => ?_, fun m A L c' e' fz' e1 e2 e3 e4 => ?_⟩
    · obtain ⟨rfl, rfl⟩ := pick m A e
      · refine ⟨Lp, cc, et, fz, x1, a2, a3, by simp only [List.length_append, jl, hBl]; omega, a5, fun _ => a6 hBro, fun i u hu => ?_⟩
        simp only at hu
        rw [List.getElem?_append] at hu
        split at hu
        · obtain ⟨k1, u', k2, k3⟩ := a7 i u hu; exact ⟨k1, u', k2, k3.mono X.le⟩
        · obtain ⟨k1, u', k2, k3⟩ := jv _ u hu
          exact ⟨k1, u', by rw [← k2]; congr 2; omega, k3⟩
    · obtain ⟨rfl, rfl⟩ := pick m A e1
      obtain ⟨rfl, rfl⟩ := pick k A2 e2
      exact absurd rfl hmk
    · obtain ⟨rfl, rfl⟩ := pick m A e
      cases hro
    · obtain ⟨rfl, rfl⟩ := pick m A e1
      · rw [x1] at e3; cases e3; exact R.hid _ B Lp c' e' fz' hB hBro a1 e4
  have hv0 : VL r1 (.slice (some ⟨p, 0, none⟩) n (2 * C + 1) :: rest) (.slice (some a') n C :: rest') := by
    refine VL.cons (hVR r1 X.le) ⟨by have := hv.1; simpa using this, fun i u u' e1 e2 => (hv.2 (i + 1) u u' (by simpa using e1) (by simpa using e2)).mono X.le⟩
  obtain ⟨hc, hcalls⟩ := run_table hD ht fuel f base r1 _ w _ _ _ h3 hran hv0 R0
  refine ⟨hc, hcalls.mono fun x w2 hx => ?_⟩
  obtain ⟨r2, v'', rfl, hvv, R3, F, _⟩ := hx
  obtain ⟨Lq, cq, eq_, fq, k1, k2, k3, k4, k5, k6, k7⟩ := R3.cells q _ hq
  have hle12 : r.le r2 := Rho.le_trans X.le F.le
  have hnone : r h.next = none := R.new _ (Nat.le_refl _)
  have hle : r.le (r.put h.next Lq) := Rho.le_put hnone
  have hlt : ∀ m A M, h.get m = some A → r m = some M → M.b < w.heap.size := fun m A M g1 g2 => by
    obtain ⟨M', _, _, _, z1, z2, _⟩ := R.cells m A g1
    rw [g2] at z1; cases z1; exact (Array.getElem?_eq_some_iff.1 z2).1
  have hget : ∀ m A, ((h.set p none).alloc ⟨res, B.es, false⟩).get m = some A → (m = h.next ∧ A = ⟨res, B.es, false⟩) ∨ (m ≠ h.next ∧ m ≠ p ∧ h.get m = some A) := fun m A e => by
    rw [H.get_alloc, H.get_set, H.next_set] at e
    split at e
    · rename_i z; cases e; exact .inl ⟨z, rfl⟩
    · rename_i z
      split at e
      · cases e
      · rename_i z3; exact .inr ⟨z, z3, e⟩
  have hsame : ∀ m A M, m ≠ p → h.get m = some A → r m = some M → w2.heap[M.b]? = w.heap[M.b]? := fun m A M z1 z3 z4 => F.keep M.b (hlt m A M z3 z4) (fun m' A' M' j1 _ j3 => by
    obtain ⟨rfl, _⟩ := pick m' A' j1
    · rw [x1] at j3; cases j3; exact R.inj _ m B A _ M hB z3 (fun e => z1 e.symm) hBro a1 z4)
  have hcross : ∀ m A M, m ≠ p → h.get m = some A → r m = some M → Lq.b ≠ M.b := fun m A M z1 z3 z4 e => by
    obtain ⟨m', A', M', j1, _, j3, j4⟩ := F.cov q _ Lq hq rfl k1 (by rw [e]; exact hlt m A M z3 z4)
    obtain ⟨rfl, _⟩ := pick m' A' j1
    · rw [x1] at j3; cases j3; exact R.inj _ m B A _ M hB z3 (fun e => z1 e.symm) hBro a1 z4 (j4.trans e)
  refine ⟨r.put h.next Lq, v'', rfl, ?_, ⟨fun m A e => ?_, fun m k A A2 L M e1 e2 hmk hro e3 e4 => ?_, fun m hm => ?_, R3.size, fun m A M e hro e2 => ?_, fun m A M c' e' fz' e1 e2 e3 e4 => ?_⟩, ⟨hle, by show h.next ≤ h.next + 1; omega, F.size, F.os, F.tape, F.output, fun b hb hno => ?_, fun m A M e hro e2 hl => ?_⟩, fun m hm _ hr => ?_⟩
  · cases hvv with
    | sl g g1 g2 g3 g4 =>
      refine .sl (g.imp (fun g => ?_) id) g1 (by omega) (fun q => by omega) (fun _ => ⟨Lq, Rho.put_same .., ?_⟩)
      · obtain ⟨_, M, m1, m2⟩ := g
        rw [k1] at m1; cases m1
        exact ⟨rfl, Lq, Rho.put_same .., m2⟩
      · by_cases e : c2 % 2 = 0
        · obtain ⟨M, m1, m2⟩ := g4 e
          rw [k1] at m1; cases m1; exact m2
        · have h1 := hodd (by omega)
          rw [g3 (by omega), k3]; simp only [Nat.zero_add]
          rw [← h1]; exact k4
  · rcases hget m A e with ⟨rfl, rfl⟩ | ⟨z1, z3, z4⟩
    · refine ⟨Lq, cq, eq_, fq, Rho.put_same .., k2, k3, ?_, k5, fun _ => k6 rfl, fun i u hu => ?_⟩
      · simp only [List.length_append] at k4 ⊢; omega
      · simp only at hu
        have hi := (List.getElem?_eq_some_iff.1 hu).1
        obtain ⟨j1, u'', j2, j3⟩ := k7 i u (by simp only; rw [List.getElem?_append_left hi]; exact hu)
        refine ⟨j1, u'', j2, ?_⟩
        have hold : ∃ u', VR r u u' := by
          have hm := hresm u (List.mem_of_getElem? hu)
          obtain ⟨i2, hi2, rfl⟩ := List.getElem_of_mem hm
          obtain ⟨_, u', _, y⟩ := a7 i2 _ (List.getElem?_eq_getElem hi2); exact ⟨u', y⟩
        obtain ⟨u', y⟩ := hold
        exact (VR.back hle12 y j3).mono hle
    · obtain ⟨M, c', e', f', j1, j2, j3, j4, j5, j6, j7⟩ := R.cells m A z4
      refine ⟨M, c', e', f', hle _ _ j1, by rw [hsame m A M z3 z4 j1]; exact j2, j3, j4, j5, j6, fun i u hu => ?_⟩
      obtain ⟨y1, u', y2, y3⟩ := j7 i u hu
      exact ⟨y1, u', y2, y3.mono hle⟩
  · rcases hget m A e1 with ⟨rfl, rfl⟩ | ⟨z1, z3, z4⟩
    · rcases hget k A2 e2 with ⟨rfl, _⟩ | ⟨y1, y3, y4⟩
      · exact absurd rfl hmk
      · rw [Rho.put_same] at e3; cases e3
        rw [Rho.put_ne _ _ y1] at e4
        exact hcross k A2 M y3 y4 e4
    · rw [Rho.put_ne _ _ z1] at e3
      rcases hget k A2 e2 with ⟨rfl, _⟩ | ⟨y1, y3, y4⟩
      · rw [Rho.put_same] at e4; cases e4
        exact (hcross m A L z3 z4 e3).symm
      · rw [Rho.put_ne _ _ y1] at e4
        exact R.inj m k A A2 L M z4 y4 hmk hro e3 e4
  · have : h.next + 1 ≤ m := hm
    rw [Rho.put_ne _ _ (by omega)]; exact R.new m (by omega)
  · rcases hget m A e with ⟨rfl, rfl⟩ | ⟨z1, z3, z4⟩
    · cases hro
    · rw [Rho.put_ne _ _ z1] at e2; exact R.ro m A M z4 hro e2
  · rcases hget m A e1 with ⟨rfl, rfl⟩ | ⟨z1, z3, z4⟩
    · rw [Rho.put_same] at e3; cases e3
      exact R3.hid q _ Lq c' e' fz' hq rfl k1 e4
    · rw [Rho.put_ne _ _ z1] at e3
      rw [hsame m A M z3 z4 e3] at e4
      exact R.hid m A M c' e' fz' z4 e2 e3 e4
  · refine F.keep b hb (fun m' A' M' j1 _ j3 => ?_)
    obtain ⟨rfl, _⟩ := pick m' A' j1
    · rw [x1] at j3; cases j3; exact hno _ B _ hB hBro a1
  · rcases hget m A e with ⟨rfl, rfl⟩ | ⟨z1, z3, z4⟩
    · rw [Rho.put_same] at e2; cases e2
      obtain ⟨m', A', M', j1, _, j3, j4⟩ := F.cov q _ Lq hq rfl k1 hl
      obtain ⟨rfl, _⟩ := pick m' A' j1
      · rw [x1] at j3; cases j3; exact ⟨_, B, Lp, hB, hBro, a1, j4⟩
    · rw [Rho.put_ne _ _ z1] at e2; exact ⟨m, A, M, z4, hro, e2, rfl⟩
  · rw [Rho.put_ne _ _ (by omega)]; exact hr
end Go.Proofs.Ytkfjlbdedjoojaa.Am
namespace Go.Proofs.Ytkfjlbdedjoojaa.Am
open Go
set_option linter.unusedVariables false
set_option linter.unusedSimpArgs false
section
variable {base h h1 h2 h3 : H} {L L' : List Seg} {R : List Nat} {S : Seg}
variable {tab : Nat → Option FD} {Q : Ex → Env → H → Prop} {q : Env → H → Prop} {e e2 : Env}
variable {rb : Nat} {ss : List Step} {d : Option Nat} {g : Option (Nat × Bool)}
theorem op_slX0 {x y : Operand} {k : IntKind} {p o n C es : Nat} (i : Nat) (hx : ev e x = some (.slice (some ⟨p, o, none⟩) n (2 * C + 1))) (hy : ev e y = some (.int k (i : Int))) (h1 : i ≤ n) (h2 : n ≤ C) : opE (.slV es x (some y) none none) e h none = some (.slice (some ⟨p, o + i * es, none⟩) (n - i) (2 * (C - i) + 1), h) := by
  have hnn : bnd e none = some none := rfl
  simp only [opE, hx, bnd_nat hy, hnn, Option.getD_some, Option.getD_none]
  rw [if_pos ⟨by omega, by omega, by omega, by simp⟩, if_pos (.inl (by omega))]
  congr 4; omega
theorem op_slX1 {x y : Operand} {k : IntKind} {p o n C es : Nat} (j : Nat) (hx : ev e x = some (.slice (some ⟨p, o, none⟩) n (2 * C + 1))) (hy : ev e y = some (.int k (j : Int))) (h1 : j ≤ C) : opE (.slV es x none (some y) none) e h none = some (.slice (some ⟨p, o, none⟩) j (2 * C + 1), h) := by
  have hnn : bnd e none = some none := rfl
  simp only [opE, hx, bnd_nat hy, hnn, Option.getD_some, Option.getD_none]
  rw [if_pos ⟨by omega, by omega, by omega, by simp⟩, if_pos (.inl (by omega))]
  simp only [Nat.zero_mul, Nat.add_zero, Nat.sub_zero]
  congr 3; omega
theorem op_slE0 {x y : Operand} {k : IntKind} {p o n C es : Nat} {B : Blk} (i : Nat) (hb : h.get p = some B) (hes : B.es = es) (hx : ev e x = some (.slice (some ⟨p, o, none⟩) n (2 * C))) (hy : ev e y = some (.int k (i : Int))) (h1 : i ≤ n) (h2 : n ≤ C) : opE (.slV es x (some y) none none) e h none = some (.slice (some ⟨p, o + i * es, none⟩) (n - i) (2 * (C - i)), h) := by
  have hnn : bnd e none = some none := rfl
  simp only [opE, hx, bnd_nat hy, hnn, Option.getD_some, Option.getD_none]
  rw [if_pos ⟨by omega, by omega, by omega, by simp⟩, if_neg (by simp)]
  simp only [hb, hes, if_true]
  congr 3; omega
theorem op_capX {x : Operand} {P : Option Addr} {n C : Nat} (hx : ev e x = some (.slice P n (2 * C + 1))) : opE (.capV x) e h none = some (.int .i64 (C : Int), h) := by
  simp only [opE, hx]; rw [if_pos (by omega)]; congr 3; omega
theorem op_ovlF {x y : Operand} {a b : Addr} {n m ca cb : Nat} {A B : Blk} (hx : ev e x = some (.slice (some a) n ca)) (hy : ev e y = some (.slice (some b) m cb)) (hA : h.get a.block = some A) (hB : h.get b.block = some B) (h1 : a.block ≠ b.block) (h2 : A.ro = false) (h3 : B.ro = false) (h4 : 0 < n) (h5 : 0 < m) (h6 : a.off < A.cells.length) (h7 : b.off < B.cells.length) : opE (.ovl x y) e h none = some (.bool false, h) := by
  simp only [opE, hx, hy, hA, hB]; rw [if_pos ⟨h1, h2, h3, h4, h5, h6, h7⟩]
theorem src_row {p o n c es m : Nat} {B : Blk} {src : List Value} (hb : h.get p = some B) (hm : m * es ≠ 0) (hle : o + m * es ≤ B.cells.length) (hs : (B.cells.drop o).take (m * es) = src) : srcCells h es m (.slice (some ⟨p, o, none⟩) n c) = some src := by
  simp only [srcCells]; rw [lds_at hb hle, hs]
theorem WS.cpyR {x z : Operand} {y : Value} {p o n c es bes l m : Nat} {cells src : List Value} (M : Mem base h ([(p, ⟨cells, bes, false⟩)] :: L) R) (hg : gd e g = some true) (hx : ev e x = some (.slice (some ⟨p, o, none⟩) n c)) (hy : ev e z = some y) (s1 : srcLen y = some l) (hm : Nat.min l n = m) (s2 : srcCells h es m y = some src) (hle : o + src.length ≤ cells.length) (hall : src.all (·.oneCell') = true) (hne : src ≠ [])
    (k : ∀ h1, Mem base h1 ([(p, ⟨splice cells o src, bes, false⟩)] :: L) R → WS tab rb ss (put e d (.int .i64 (m : Int))) h1 q) : WS tab rb (.op d g (.cpy es x z) :: ss) e h q := by
  have hb : h.get p = some ⟨cells, bes, false⟩ := (M.own (p, ⟨cells, bes, false⟩) (by simp)).1
  have hst : h.sts ⟨p, o, none⟩ src = some (h.set p (some ⟨splice cells o src, bes, false⟩)) := by
    match src, hne, hle, hall with
    | v :: vs, _, hle, hall => exact sts_at hb rfl hle hall
  refine .op hg (v := .int .i64 (m : Int)) ?_ (k _ (Mem.set (S1 := []) (S2 := []) M _))
  simp only [opE, hx, hy, s1, hm, s2, hst]
theorem WS.appR {x z : Operand} {y : Value} {p n C es bytes l : Nat} {cells src : List Value} (M : Mem base h ([(p, ⟨cells, es, false⟩)] :: L) R) (hg : gd e g = some true) (hx : ev e x = some (.slice (some ⟨p, 0, none⟩) n (2 * C + 1))) (hy : ev e z = some y) (s1 : srcLen y = some l) (s2 : srcCells h es l y = some src) (hsl : src.length = l * es) (hC : cells.length = C * es) (hn : n ≤ C) (hall : src.all (·.oneCell') = true) (hne : src ≠ []) (hb1 : (n + l) * bytes ≤ 140737488355328) (hb2 : n + l ≤ 4398046511104)
    (kin : n + l ≤ C → ∀ h1, Mem base h1 ([(p, ⟨splice cells (n * es) src, es, false⟩)] :: L) R → WS tab rb ss (put e d (.slice (some ⟨p, 0, none⟩) (n + l) (2 * C + 1))) h1 q)
    (kout : ∀ r h1, Mem base h1 ([(r, ⟨cells.take (n * es) ++ src, es, false⟩)] :: [(p, ⟨cells, es, false⟩)] :: L) R → WS tab rb ss (put e d (.slice (some ⟨r, 0, none⟩) (n + l) (2 * (n + l)))) h1 q) : WS tab rb (.op d g (.app es bytes x z) :: ss) e h q := by
  have hb : h.get p = some ⟨cells, es, false⟩ := (M.own (p, ⟨cells, es, false⟩) (by simp)).1
  have hmul : n * es ≤ C * es := Nat.mul_le_mul_right _ hn
  by_cases c : n + l ≤ C
  · have hmul2 : n * es + l * es ≤ C * es := by rw [← Nat.add_mul]; exact Nat.mul_le_mul_right _ c
    have hst : h.sts ⟨p, 0 + n * es, none⟩ src = some (h.set p (some ⟨splice cells (n * es) src, es, false⟩)) := by
      rw [Nat.zero_add]
      match src, hne, hsl, hall with
      | v :: vs, _, hsl, hall => exact sts_at hb rfl (by rw [hsl]; simp only; omega) hall
    refine .op hg (op_app hx hy (r := (.slice (some ⟨p, 0, none⟩) (n + l) (2 * C + 1), h.set p (some ⟨splice cells (n * es) src, es, false⟩))) ?_) (kin c _ (Mem.set (S1 := []) (S2 := []) M _))
    simp only [appE, s1, s2]
    rw [if_pos (by omega)]
    simp only [hst]
  · refine .op hg (op_app hx hy (r := (.slice (some ⟨h.next, 0, none⟩) (n + l) (2 * (n + l)), h.alloc ⟨cells.take (n * es) ++ src, es, false⟩)) ?_) (kout _ _ (M.alloc _))
    simp only [appE, s1, s2]
    rw [if_neg (by omega), if_pos ⟨hb1, hb2, hall⟩, lds_at hb (by simp only; omega)]
    simp only
    rw [if_pos (by omega), List.drop_zero]; rfl
theorem WS.apzR {x y : Operand} {z : List Value} {p n C bytes k0 : Nat} {kk : IntKind} {B : Blk} (M : Mem base h L R) (hb : h.get p = some B) (hg : gd e g = some true) (hx : ev e x = some (.slice (some ⟨p, 0, none⟩) n (2 * C + 1))) (hy : ev e y = some (.int kk (k0 : Int))) (h0 : 0 < k0) (hC : C < n + k0) (hz : 0 < z.length) (hle : n * z.length ≤ B.cells.length) (hb2 : n + k0 ≤ 4398046511104) (hb1 : (n + k0) * bytes ≤ 140737488355328)
    (k : ∀ r h1, Mem base h1 ([(r, ⟨B.cells.take (n * z.length) ++ zrep z k0, z.length, false⟩)] :: L) R → WS tab rb ss (put e d (.slice (some ⟨r, 0, none⟩) (n + k0) (2 * (n + k0)))) h1 q) : WS tab rb (.op d g (.apz z bytes x y) :: ss) e h q := by
  refine .op hg (v := .slice (some ⟨h.next, 0, none⟩) (n + k0) (2 * (n + k0))) (h1 := h.alloc ⟨B.cells.take (n * z.length) ++ zrep z k0, z.length, false⟩) ?_ (k _ _ (M.alloc _))
  simp only [opE, hx, hy, Int.toNat_natCast]
  rw [if_pos ⟨by omega, by omega, by omega, hz, hb2, hb1⟩, lds_at hb (by omega), List.drop_zero]; rfl
theorem op_slX3 {x y z m : Operand} {k k2 k3 : IntKind} {p o n C es : Nat} (i j l : Nat) (hx : ev e x = some (.slice (some ⟨p, o, none⟩) n (2 * C + 1))) (hy : ev e y = some (.int k (i : Int))) (hz : ev e z = some (.int k2 (j : Int))) (hm : ev e m = some (.int k3 (l : Int))) (h1 : i ≤ j) (h2 : j ≤ l) (h3 : l ≤ C) : opE (.slV es x (some y) (some z) (some m)) e h none = some (.slice (some ⟨p, o + i * es, none⟩) (j - i) (2 * (l - i) + 1), h) := by
  simp only [opE, hx, bnd_nat hy, bnd_nat hz, bnd_nat hm, Option.getD_some]
  rw [if_pos ⟨by omega, by omega, by omega, by simp⟩, if_pos (.inl (by omega))]
theorem op_slX2 {x y z : Operand} {k k2 : IntKind} {p o n C es : Nat} (i j : Nat) (hx : ev e x = some (.slice (some ⟨p, o, none⟩) n (2 * C + 1))) (hy : ev e y = some (.int k (i : Int))) (hz : ev e z = some (.int k2 (j : Int))) (h1 : i ≤ j) (h2 : j ≤ C) : opE (.slV es x (some y) (some z) none) e h none = some (.slice (some ⟨p, o + i * es, none⟩) (j - i) (2 * (C - i) + 1), h) := by
  have hnn : bnd e none = some none := rfl
  simp only [opE, hx, bnd_nat hy, bnd_nat hz, hnn, Option.getD_some, Option.getD_none]
  rw [if_pos ⟨by omega, by omega, by omega, by simp⟩, if_pos (.inl (by omega))]
  congr 3; omega
theorem sts_any {p o es : Nat} {cells src : List Value} (hb : h.get p = some ⟨cells, es, false⟩) (hle : o + src.length ≤ cells.length) (hall : src.all (·.oneCell') = true) : h.sts ⟨p, o, none⟩ src = some (h.set p (some ⟨splice cells o src, es, false⟩)) := by
  match src, hle, hall with
  | [], hle, _ =>
    have e1 : splice cells o [] = cells := by unfold splice; simp
    have e2 : h.set p (some ⟨cells, es, false⟩) = h := by
      obtain ⟨t, nx⟩ := h
      show (⟨Tr.setK p t p (some ⟨cells, es, false⟩), nx⟩ : H) = ⟨t, nx⟩
      congr 1
      exact Tr.setK_self p t p (Nat.le_refl _) hb
    rw [e1, e2]; rfl
  | v :: vs, hle, hall => exact sts_at hb rfl hle hall
theorem WS.appIn {x z : Operand} {y : Value} {p o n C es bytes l : Nat} {cells src : List Value} (M : Mem base h ([(p, ⟨cells, es, false⟩)] :: L) R) (hg : gd e g = some true) (hx : ev e x = some (.slice (some ⟨p, o, none⟩) n (2 * C + 1))) (hy : ev e z = some y) (s1 : srcLen y = some l) (s2 : srcCells h es l y = some src) (hle : o + n * es + src.length ≤ cells.length) (hn : n + l ≤ C) (hall : src.all (·.oneCell') = true)
    (k : ∀ h1, Mem base h1 ([(p, ⟨splice cells (o + n * es) src, es, false⟩)] :: L) R → WS tab rb ss (put e d (.slice (some ⟨p, o, none⟩) (n + l) (2 * C + 1))) h1 q) : WS tab rb (.op d g (.app es bytes x z) :: ss) e h q := by
  have hb : h.get p = some ⟨cells, es, false⟩ := (M.own (p, ⟨cells, es, false⟩) (by simp)).1
  refine .op hg (op_app hx hy (r := (.slice (some ⟨p, o, none⟩) (n + l) (2 * C + 1), h.set p (some ⟨splice cells (o + n * es) src, es, false⟩))) ?_) (k _ (Mem.set (S1 := []) (S2 := []) M _))
  simp only [appE, s1, s2]
  rw [if_pos (by omega)]
  simp only [sts_any hb hle hall]
theorem src_any {p o n c es m : Nat} {B : Blk} {src : List Value} (hb : h.get p = some B) (hle : o + m * es ≤ B.cells.length) (hs : (B.cells.drop o).take (m * es) = src) : srcCells h es m (.slice (some ⟨p, o, none⟩) n c) = some src := by
  simp only [srcCells]
  by_cases q : m * es = 0
  · rw [q] at hs ⊢; simp only [H.lds, if_true]; rw [← hs, List.take_zero]
  · rw [lds_at hb hle, hs]
theorem WS.clrR {x : Operand} {p o n c es bes : Nat} {cells z : List Value} (M : Mem base h ([(p, ⟨cells, bes, false⟩)] :: L) R) (hg : gd e g = some true) (hx : ev e x = some (.slice (some ⟨p, o, none⟩) n c)) (hn : n ≠ 0) (hle : o + (zrep z n).length ≤ cells.length) (hall : (zrep z n).all (·.oneCell') = true)
    (k : ∀ h1, Mem base h1 ([(p, ⟨splice cells o (zrep z n), bes, false⟩)] :: L) R → WS tab rb ss (put e d undef) h1 q) : WS tab rb (.op d g (.clr es z x) :: ss) e h q := by
  have hb : h.get p = some ⟨cells, bes, false⟩ := (M.own (p, ⟨cells, bes, false⟩) (by simp)).1
  refine .op (v := undef) hg ?_ (k _ (Mem.set (S1 := []) (S2 := []) M _))
  simp only [opE, hx]
  rw [if_neg hn, sts_any hb hle hall]; rfl
theorem at_all {α : Type} {K : Row α} {l : List α} {b es : Nat} {ro : Bool} (hb : h.get b = some ⟨K.flat l, es, ro⟩) : At h b 0 (K.flat l) := ⟨_, hb, by simp, by simp⟩
end
theorem splice_at {P U Q vs : List Value} {i : Nat} (hi : P.length = i) (hu : U.length = vs.length) : splice (P ++ (U ++ Q)) i vs = P ++ (vs ++ Q) := by
  unfold splice
  subst hi
  rw [List.take_left, ← List.drop_drop, List.drop_left, ← hu, List.drop_left, List.append_assoc]
theorem zrep_len (z : List Value) (n : Nat) : (zrep z n).length = n * z.length := by
  induction n with
  | zero => simp [zrep]
  | succ n ih => rw [zrep, List.length_append, ih, Nat.add_mul, Nat.one_mul, Nat.add_comm]
theorem WS.stSub {base h : H} {L : List Seg} {R : List Nat} {tab : Nat → Option FD} {q : Env → H → Prop} {e : Env} {rb : Nat} {ss : List Step} {d : Option Nat} {g : Option (Nat × Bool)} {α : Type} {K : Row α} {l : List α} {b es j k0 n : Nat} {y y' : α} {x z : Operand} {v : Value} (vs : List Value) (M : Mem base h ([(b, ⟨K.flat l, es, false⟩)] :: L) R) (hy : l[j]? = some y) (hg : gd e g = some true) (hx : ev e x = some (.pointer (some ⟨b, 0 + j * K.n + k0, none⟩))) (hz : ev e z = some v) (hv : v.cells.toList = vs) (hn : vs.length = n) (ho : vs.all (·.oneCell') = true) (hk : k0 + n ≤ K.n) (hp : 0 < n) (hc : splice (K.cells y) k0 vs = K.cells y')
    (k : ∀ h1, Mem base h1 ([(b, ⟨K.flat (l.set j y'), es, false⟩)] :: L) R → WS tab rb ss (put e d undef) h1 q) : WS tab rb (.op d g (.st n x z) :: ss) e h q := by
  have hj := (List.getElem?_eq_some_iff.1 hy).1
  have hm := Nat.mul_le_mul_right K.n (show j + 1 ≤ l.length by omega)
  rw [Nat.add_mul, Nat.one_mul] at hm
  refine WS.st1 M vs (K.flat (l.set j y')) hg hx hz hv hn hp (by rw [K.flat_length]; omega) ho ?_ k
  have e1 : l = l.take j ++ y :: l.drop (j + 1) := by
    rw [← (List.getElem?_eq_some_iff.1 hy).2, List.getElem_cons_drop, List.take_append_drop]
  have e2 : l.set j y' = l.take j ++ y' :: l.drop (j + 1) := by rw [List.set_eq_take_append_cons_drop, if_pos hj]
  have h1 : (K.flat (l.take j)).length = j * K.n := by rw [K.flat_length, List.length_take, Nat.min_eq_left (by omega)]
  have e3 : K.flat l = (K.flat (l.take j) ++ (K.cells y).take k0) ++ (((K.cells y).drop k0).take n ++ ((K.cells y).drop (k0 + n) ++ K.flat (l.drop (j + 1)))) := by
    conv => lhs; rw [e1]
    rw [K.flat_append, K.flat_cons, List.append_assoc]; congr 1
    have q1 : (K.cells y).drop (k0 + n) = ((K.cells y).drop k0).drop n := by rw [List.drop_drop]
    rw [← List.append_assoc (((K.cells y).drop k0).take n), q1, List.take_append_drop, ← List.append_assoc, List.take_append_drop]
  rw [e3, splice_at (by rw [List.length_append, h1, List.length_take, K.len]; omega) (by rw [List.length_take, List.length_drop, K.len, hn]; omega), e2, K.flat_append, K.flat_cons, ← hc]
  unfold splice
  rw [hn]; simp only [List.append_assoc]
theorem ins_end {c0 v1 : List Value} {a s : Nat} (h1 : v1.length = s) (h2 : a + s ≤ c0.length) : splice c0 a v1 = (c0.take a ++ v1 ++ (c0.drop a).take 0) ++ c0.drop (a + s) := by
  unfold splice; subst h1; simp
theorem ins_mid {c0 v1 : List Value} {a b s : Nat} (h1 : v1.length = s) (h2 : a + b + s ≤ c0.length) :
    splice (splice c0 (a + s) ((c0.drop a).take b)) a v1 = (c0.take a ++ v1 ++ (c0.drop a).take b) ++ c0.drop (a + b + s) := by
  have e1 : c0 = c0.take (a + s) ++ ((c0.drop (a + s)).take b ++ c0.drop (a + s + b)) := by
    have q : c0.drop (a + s + b) = (c0.drop (a + s)).drop b := by rw [List.drop_drop]
    rw [q, List.take_append_drop, List.take_append_drop]
  have hl : ((c0.drop (a + s)).take b).length = ((c0.drop a).take b).length := by simp; omega
  have e2 : splice c0 (a + s) ((c0.drop a).take b) = c0.take (a + s) ++ ((c0.drop a).take b ++ c0.drop (a + s + b)) := by
    conv => lhs; rw [e1]
    have := splice_at (P := c0.take (a + s)) (U := (c0.drop (a + s)).take b) (Q := c0.drop (a + s + b)) (vs := (c0.drop a).take b) (i := a + s) (by simp; omega) hl
    rw [← e1]; rw [← e1] at this; exact this
  rw [e2]
  have e3 : c0.take (a + s) = c0.take a ++ (c0.drop a).take s := by
    rw [← List.take_add]
  rw [e3, List.append_assoc]
  rw [splice_at (P := c0.take a) (U := (c0.drop a).take s) (vs := v1) (by simp; omega) (by rw [h1]; simp; omega)]
  rw [show a + s + b = a + b + s by omega]; simp only [List.append_assoc]
theorem ins_new {c0 v1 Z : List Value} {a b s : Nat} (h1 : v1.length = s) (h2 : a + b ≤ c0.length) (hz : Z.length = b + s) :
    splice (splice (c0.take a ++ Z) a v1) (a + s) ((c0.drop a).take b) = c0.take a ++ v1 ++ (c0.drop a).take b := by
  have e1 : Z = Z.take s ++ Z.drop s := (List.take_append_drop s Z).symm
  have e2 : splice (c0.take a ++ Z) a v1 = c0.take a ++ (v1 ++ Z.drop s) := by
    conv => lhs; rw [e1]
    exact splice_at (by simp; omega) (by rw [h1]; simp; omega)
  rw [e2]
  have e3 : c0.take a ++ (v1 ++ Z.drop s) = (c0.take a ++ v1) ++ (Z.drop s ++ []) := by simp
  rw [e3, splice_at (by simp; omega) (by simp; omega)]; simp
theorem del_mid {c0 z : List Value} {a b s : Nat} (hz : z.length = s) (h2 : a + s + b ≤ c0.length) :
    splice (splice c0 a ((c0.drop (a + s)).take b)) (a + b) z = (c0.take a ++ (c0.drop (a + s)).take b) ++ (z ++ c0.drop (a + s + b)) := by
  have hl : ((c0.drop (a + s)).take b).length = b := by simp; omega
  have e2 : splice c0 a ((c0.drop (a + s)).take b) = (c0.take a ++ (c0.drop (a + s)).take b) ++ ((c0.drop (a + b)).take s ++ c0.drop (a + s + b)) := by
    unfold splice
    rw [hl]; congr 1
    have q : c0.drop (a + s + b) = (c0.drop (a + b)).drop s := by rw [List.drop_drop]; congr 1; omega
    rw [q, List.take_append_drop]
  rw [e2, splice_at (by rw [List.length_append, hl, List.length_take]; omega) (by rw [hz]; simp; omega)]
end Go.Proofs.Ytkfjlbdedjoojaa.Am
namespace Go.Proofs.Ytkfjlbdedjoojaa.Wt
open Go Go.Proofs.Ytkfjlbdedjoojaa.Am Go.Proofs.Ytkfjlbdedjoojaa.IrAll
set_option linter.unusedVariables false
set_option linter.unusedSimpArgs false
def insR (c0 v1 : List Value) (es i n : Nat) : List Value := c0.take (i * es) ++ v1 ++ (c0.drop (i * es)).take ((n - i) * es)
def gIns (es : Nat) (us : List Value) (h : H) : Option (Value × H) :=
  match us with
  | [.slice (some ⟨p, 0, none⟩) n c, .int .i64 k, .slice (some ⟨vb, 0, none⟩) 1 3] =>
    match h.get p with
    | some B => match h.get vb with
      | some Bv =>
        if p ≠ vb ∧ B.ro = false ∧ Bv.ro = false ∧ B.es = es ∧ Bv.es = es ∧ B.cells.length = c / 2 * es ∧ Bv.cells.length = es ∧ 0 ≤ k ∧ k.toNat ≤ n ∧ n ≤ c / 2 ∧ n ≤ 1000000 ∧ B.cells.all (·.oneCell') = true ∧ Bv.cells.all (·.oneCell') = true ∧ p < h.next ∧ vb < h.next then
          some (.slice (some ⟨h.next, 0, none⟩) (n + 1) (2 * (n + 1)), ((h.set p none).set vb none).alloc ⟨insR B.cells Bv.cells es k.toNat n, es, false⟩)
        else none
      | none => none
    | none => none
  | _ => none
theorem insR_app {c0 js v1 : List Value} {es i n : Nat} (hn : n * es ≤ c0.length) (hi : i ≤ n) : insR (c0 ++ js) v1 es i n = insR c0 v1 es i n := by
  unfold insR
  have h1 : i * es ≤ n * es := Nat.mul_le_mul_right _ hi
  have h2 : i * es + (n - i) * es = n * es := by rw [← Nat.add_mul]; congr 1; omega
  rw [List.take_append_of_le_length (by omega), List.drop_append_of_le_length (by omega), List.take_append_of_le_length (by rw [List.length_drop]; omega)]
def delR (c0 : List Value) (es i n : Nat) : List Value := c0.take (i * es) ++ (c0.drop (i * es + es)).take ((n - (i + 1)) * es)
def gDel (es : Nat) (us : List Value) (h : H) : Option (Value × H) :=
  match us with
  | [.slice (some ⟨p, 0, none⟩) n c, .int .i64 k, .int .i64 k2] =>
    match h.get p with
    | some B =>
      if B.ro = false ∧ B.es = es ∧ B.cells.length = c / 2 * es ∧ 0 ≤ k ∧ k2 = k + 1 ∧ k.toNat < n ∧ n ≤ c / 2 ∧ n ≤ 1000000 ∧ B.cells.all (·.oneCell') = true ∧ p < h.next then
        some (.slice (some ⟨h.next, 0, none⟩) (n - 1) (2 * (n - 1)), (h.set p none).alloc ⟨delR B.cells es k.toNat n, es, false⟩)
      else none
    | none => none
  | _ => none
theorem delR_app {c0 js : List Value} {es i n : Nat} (hn : n * es ≤ c0.length) (hi : i < n) : delR (c0 ++ js) es i n = delR c0 es i n := by
  unfold delR
  have h1 : (i + 1) * es ≤ n * es := Nat.mul_le_mul_right _ hi
  have h2 : (i + 1) * es + (n - (i + 1)) * es = n * es := by rw [← Nat.add_mul]; congr 1; omega
  rw [Nat.add_mul, Nat.one_mul] at h1 h2
  rw [List.take_append_of_le_length (by omega), List.drop_append_of_le_length (by omega), List.take_append_of_le_length (by rw [List.length_drop]; omega)]
theorem delI_ran {h : H} {p n C i : Nat} {c0 : List Value} (wf : ∀ m B, h.get m = some B → m < h.next) (hp : h.get p = some ⟨c0, 4, false⟩) (hC : c0.length = C * 4) (hn : n ≤ C) (hi : i < n) (hb : n ≤ 1000000) (ha : c0.all (·.oneCell') = true) :
    Cll tabA 65 [.slice (some ⟨p, 0, none⟩) n (2 * C + 1), .int .i64 (i : Int), .int .i64 ((i + 1 : Nat) : Int)] h (fun v h2 => ∃ q c2 tl, v = .slice (some ⟨q, 0, none⟩) (n - 1) c2 ∧ h2.get q = some ⟨delR c0 4 i n ++ tl, 4, false⟩ ∧ (c2 % 2 = 1 → (delR c0 4 i n ++ tl).length = c2 / 2 * 4)) := by
  have W : Mem ⟨.leaf, 0⟩ h [[(p, ⟨c0, 4, false⟩)]] [] := by
    refine ⟨wf, Nat.zero_le _, (fun n B e => by cases e), fun n hn => absurd hn (Nat.not_lt_zero _), fun x hx => ?_, by simp, fun n hn => by simp at hn, by simp⟩
    simp only [List.flatten_cons, List.flatten_nil, List.append_nil, List.mem_singleton] at hx
    subst hx
    exact ⟨hp, Nat.zero_le _, rfl⟩
  have hal : ∀ a b, ((c0.drop a).take b).all (·.oneCell') = true := fun a b => List.all_eq_true.2 fun x hx => List.all_eq_true.1 ha x (List.mem_of_mem_drop (List.mem_of_mem_take hx))
  refine Cll.code rfl rfl ?_
  refine WC.env [(0, _), (1, _), (2, _)] rfl ?_
  refine WC.seq ?_
  refine WC.run ?_
  refine WS.op rfl rfl (WS.nil [(0, _), (1, _), (2, _)] rfl ?_)
  refine WC.seq ?_
  refine WC.run ?_
  refine WS.op rfl rfl (WS.op rfl rfl (WS.op rfl rfl (WS.op rfl rfl (WS.op rfl rfl (WS.op rfl (op_slX3 i (i + 1) n rfl rfl rfl rfl (by omega) (by omega) hn) (WS.nil [(0, _), (1, _), (2, _)] rfl ?_))))))
  refine WC.seq ?_
  refine WC.seq ?_
  refine WC.run ?_
  refine WS.op rfl rfl (WS.op rfl rfl ?_)
  refine WS.eqlN (a := i) (b := (i + 1)) rfl rfl rfl (fun e16 => ?_) (fun e16 => ?_)
  ·
   exact absurd e16 (by omega)
  ·
   refine WS.nil [(0, _), (1, _), (2, _), (16, _)] rfl ?_
   refine WC.condF rfl ?_
   refine WC.skip ?_
   refine WC.seq ?_
   refine WC.run ?_
   refine WS.op rfl rfl (WS.op rfl rfl (WS.op rfl rfl (WS.nil [(0, _), (1, _), (2, _), (7, _)] rfl ?_)))
   refine WC.seq ?_
   refine WC.draw W [] rfl ?_
   intro rb1 h2 M3
   refine WS.op rfl rfl (WS.op rfl rfl (WS.op rfl (op_slX1 i rfl rfl (by omega)) (WS.op rfl rfl (WS.op rfl rfl (WS.op rfl (op_slX0 (i + 1) rfl rfl (by omega) hn) ?_)))))
   refine WS.appIn (n := i) (C := C) (cells := c0) (src := (c0.drop (i * 4 + 4)).take ((n - (i + 1)) * 4)) (l := n - (i + 1)) (M3.focus 0 rfl) rfl rfl rfl rfl (src_any (M3.at 0 rfl) (by show 0 + (i + 1) * 4 + (n - (i + 1)) * 4 ≤ c0.length; omega) (by show (c0.drop (0 + (i + 1) * 4)).take _ = _; rw [show 0 + (i + 1) * 4 = i * 4 + 4 by omega])) (by simp only [List.length_take, List.length_drop]; omega) (by omega) (hal _ _) ?_
   intro h4 M5
   replace M5 : Mem _ _ ([(p, ⟨splice c0 (0 + i * 4) ((c0.drop (i * 4 + 4)).take ((n - (i + 1)) * 4)), 4, false⟩)] :: []) _ := M5
   refine WS.op rfl rfl (WS.nil [(0, _), (7, _)] rfl ?_)
   refine WC.seq ?_
   refine WC.run ?_
   refine WS.op rfl rfl (WS.op rfl rfl (WS.op rfl rfl (WS.op rfl rfl (WS.op rfl (op_slX2 (i + (n - (i + 1))) n rfl rfl rfl (by omega) hn) ?_))))
   refine WS.clrR (cells := splice c0 (0 + i * 4) ((c0.drop (i * 4 + 4)).take ((n - (i + 1)) * 4))) (z := [(.string (bs [])), (.string (bs [])), (.int .u64 0), (.int .u64 0)]) (n := n - (i + (n - (i + 1)))) (M5.bare.focus 0 rfl) rfl rfl (by omega) (by rw [show n - (i + (n - (i + 1))) = 1 by omega]; simp only [splice, zrep, List.length_append, List.length_take, List.length_drop, List.length_cons, List.length_nil]; omega) (by rw [show n - (i + (n - (i + 1))) = 1 by omega]; rfl) ?_
   intro h6 M7
   refine WS.nil [(0, _)] rfl ?_
   refine WC.seq ?_
   refine WC.run ?_
   refine WS.op rfl rfl (WS.op rfl rfl (WS.nil [(6, _)] rfl ?_))
   refine WC.ret ?_
   refine ⟨[_], (res_tmp rfl res_nil), ?_⟩
   have q1 := (M7.at 0 rfl)
   rw [show n - (i + (n - (i + 1))) = 1 by omega, show 0 + (i + (n - (i + 1))) * 4 = i * 4 + (n - (i + 1)) * 4 by omega, show 0 + i * 4 = i * 4 by omega] at q1
   have e0 : i + (n - (i + 1)) = n - 1 := by omega
   have q2 := del_mid (c0 := c0) (z := [(.string (bs [])), (.string (bs [])), (.int .u64 0), (.int .u64 0)]) (a := i * 4) (b := (n - (i + 1)) * 4) (s := 4) rfl (by omega)
   rw [show zrep [(.string (bs [])), (.string (bs [])), (.int .u64 0), (.int .u64 0)] 1 = [(.string (bs [])), (.string (bs [])), (.int .u64 0), (.int .u64 0)] from rfl, q2] at q1
   exact ⟨p, 2 * C + 1, _, by show Value.slice (some ⟨p, 0, none⟩) (i + (n - (i + 1))) (2 * C + 1) = _; rw [e0], q1, fun _ => by simp only [delR, List.length_append, List.length_take, List.length_drop, List.length_cons, List.length_nil, hC]; omega⟩
theorem delP_ran {h : H} {p n C i : Nat} {c0 : List Value} (wf : ∀ m B, h.get m = some B → m < h.next) (hp : h.get p = some ⟨c0, 1, false⟩) (hC : c0.length = C * 1) (hn : n ≤ C) (hi : i < n) (hb : n ≤ 1000000) (ha : c0.all (·.oneCell') = true) :
    Cll tabA 66 [.slice (some ⟨p, 0, none⟩) n (2 * C + 1), .int .i64 (i : Int), .int .i64 ((i + 1 : Nat) : Int)] h (fun v h2 => ∃ q c2 tl, v = .slice (some ⟨q, 0, none⟩) (n - 1) c2 ∧ h2.get q = some ⟨delR c0 1 i n ++ tl, 1, false⟩ ∧ (c2 % 2 = 1 → (delR c0 1 i n ++ tl).length = c2 / 2 * 1)) := by
  have W : Mem ⟨.leaf, 0⟩ h [[(p, ⟨c0, 1, false⟩)]] [] := by
    refine ⟨wf, Nat.zero_le _, (fun n B e => by cases e), fun n hn => absurd hn (Nat.not_lt_zero _), fun x hx => ?_, by simp, fun n hn => by simp at hn, by simp⟩
    simp only [List.flatten_cons, List.flatten_nil, List.append_nil, List.mem_singleton] at hx
    subst hx
    exact ⟨hp, Nat.zero_le _, rfl⟩
  have hal : ∀ a b, ((c0.drop a).take b).all (·.oneCell') = true := fun a b => List.all_eq_true.2 fun x hx => List.all_eq_true.1 ha x (List.mem_of_mem_drop (List.mem_of_mem_take hx))
  refine Cll.code rfl rfl ?_
  refine WC.env [(0, _), (1, _), (2, _)] rfl ?_
  refine WC.seq ?_
  refine WC.run ?_
  refine WS.op rfl rfl (WS.nil [(0, _), (1, _), (2, _)] rfl ?_)
  refine WC.seq ?_
  refine WC.run ?_
  refine WS.op rfl rfl (WS.op rfl rfl (WS.op rfl rfl (WS.op rfl rfl (WS.op rfl rfl (WS.op rfl (op_slX3 i (i + 1) n rfl rfl rfl rfl (by omega) (by omega) hn) (WS.nil [(0, _), (1, _), (2, _)] rfl ?_))))))
  refine WC.seq ?_
  refine WC.seq ?_
  refine WC.run ?_
  refine WS.op rfl rfl (WS.op rfl rfl ?_)
  refine WS.eqlN (a := i) (b := (i + 1)) rfl rfl rfl (fun e16 => ?_) (fun e16 => ?_)
  ·
   exact absurd e16 (by omega)
  ·
   refine WS.nil [(0, _), (1, _), (2, _), (16, _)] rfl ?_
   refine WC.condF rfl ?_
   refine WC.skip ?_
   refine WC.seq ?_
   refine WC.run ?_
   refine WS.op rfl rfl (WS.op rfl rfl (WS.op rfl rfl (WS.nil [(0, _), (1, _), (2, _), (7, _)] rfl ?_)))
   refine WC.seq ?_
   refine WC.draw W [] rfl ?_
   intro rb1 h2 M3
   refine WS.op rfl rfl (WS.op rfl rfl (WS.op rfl (op_slX1 i rfl rfl (by omega)) (WS.op rfl rfl (WS.op rfl rfl (WS.op rfl (op_slX0 (i + 1) rfl rfl (by omega) hn) ?_)))))
   refine WS.appIn (n := i) (C := C) (cells := c0) (src := (c0.drop (i * 1 + 1)).take ((n - (i + 1)) * 1)) (l := n - (i + 1)) (M3.focus 0 rfl) rfl rfl rfl rfl (src_any (M3.at 0 rfl) (by show 0 + (i + 1) * 1 + (n - (i + 1)) * 1 ≤ c0.length; omega) (by show (c0.drop (0 + (i + 1) * 1)).take _ = _; rw [show 0 + (i + 1) * 1 = i * 1 + 1 by omega])) (by simp only [List.length_take, List.length_drop]; omega) (by omega) (hal _ _) ?_
   intro h4 M5
   replace M5 : Mem _ _ ([(p, ⟨splice c0 (0 + i * 1) ((c0.drop (i * 1 + 1)).take ((n - (i + 1)) * 1)), 1, false⟩)] :: []) _ := M5
   refine WS.op rfl rfl (WS.nil [(0, _), (7, _)] rfl ?_)
   refine WC.seq ?_
   refine WC.run ?_
   refine WS.op rfl rfl (WS.op rfl rfl (WS.op rfl rfl (WS.op rfl rfl (WS.op rfl (op_slX2 (i + (n - (i + 1))) n rfl rfl rfl (by omega) hn) ?_))))
   refine WS.clrR (cells := splice c0 (0 + i * 1) ((c0.drop (i * 1 + 1)).take ((n - (i + 1)) * 1))) (z := [(.slice none 0 0)]) (n := n - (i + (n - (i + 1)))) (M5.bare.focus 0 rfl) rfl rfl (by omega) (by rw [show n - (i + (n - (i + 1))) = 1 by omega]; simp only [splice, zrep, List.length_append, List.length_take, List.length_drop, List.length_cons, List.length_nil]; omega) (by rw [show n - (i + (n - (i + 1))) = 1 by omega]; rfl) ?_
   intro h6 M7
   refine WS.nil [(0, _)] rfl ?_
   refine WC.seq ?_
   refine WC.run ?_
   refine WS.op rfl rfl (WS.op rfl rfl (WS.nil [(6, _)] rfl ?_))
   refine WC.ret ?_
   refine ⟨[_], (res_tmp rfl res_nil), ?_⟩
   have q1 := (M7.at 0 rfl)
   rw [show n - (i + (n - (i + 1))) = 1 by omega, show 0 + (i + (n - (i + 1))) * 1 = i * 1 + (n - (i + 1)) * 1 by omega, show 0 + i * 1 = i * 1 by omega] at q1
   have e0 : i + (n - (i + 1)) = n - 1 := by omega
   have q2 := del_mid (c0 := c0) (z := [(.slice none 0 0)]) (a := i * 1) (b := (n - (i + 1)) * 1) (s := 1) rfl (by omega)
   rw [show zrep [(.slice none 0 0)] 1 = [(.slice none 0 0)] from rfl, q2] at q1
   exact ⟨p, 2 * C + 1, _, by show Value.slice (some ⟨p, 0, none⟩) (i + (n - (i + 1))) (2 * C + 1) = _; rw [e0], q1, fun _ => by simp only [delR, List.length_append, List.length_take, List.length_drop, List.length_cons, List.length_nil, hC]; omega⟩
theorem sDelI : SoundF Try.prog 65 (gDel 4) := by
  refine SoundF.remake1 dOK tabAOK fun us h v h2 E => ?_
  unfold gDel at E
  split at E
  · rename_i p n c k k2
    split at E
    · rename_i B hB
      split at E
      · rename_i hc; cases E
        obtain ⟨c2, c4, c6, c8, c8', c9, c10, c11, c12, c14⟩ := hc
        obtain ⟨i, rfl⟩ : ∃ i : Nat, k = i := ⟨k.toNat, (Int.toNat_of_nonneg c8).symm⟩
        rw [Int.toNat_natCast] at c9
        subst c8'
        obtain ⟨bc, bes, bro⟩ := B
        simp only at c2 c4 c6 c12
        subst c2 c4
        refine ⟨p, _, n, c, _, n - 1, delR bc 4 i n, rfl, hB, rfl, c6, rfl, by rw [Int.toNat_natCast], ?_, fun x hx => ?_, fun nx C js h1 h2 h3 h4 h5 => ?_⟩
        · unfold delR
          rw [List.all_append, Bool.and_eq_true]
          exact ⟨List.all_eq_true.2 fun x hx => List.all_eq_true.1 c12 x (List.mem_of_mem_take hx), List.all_eq_true.2 fun x hx => List.all_eq_true.1 c12 x (List.mem_of_mem_drop (List.mem_of_mem_take hx))⟩
        · unfold delR at hx
          rcases List.mem_append.1 hx with hx | hx
          · exact List.mem_of_mem_take hx
          · exact List.mem_of_mem_drop (List.mem_of_mem_take hx)
        · simp only at h4 c6 ⊢
          obtain ⟨v', h3', hr, q, c2, tl, q1, q2, q3⟩ := delI_ran (h := small1 nx p ⟨bc ++ js, 4, false⟩) (p := p) (n := n) (C := C) (i := i) (c0 := bc ++ js)
            (fun m B e => by
              rw [small1_get] at e
              split at e
              · rename_i z; rw [z, small1_next]; omega
              · cases e) (by rw [small1_get, if_pos rfl]) (by rw [List.length_append, h4, c6]; omega) h3 c9 c11 (by rw [List.all_append, c12, h5]; rfl)
          rw [delR_app (by rw [c6]; exact Nat.mul_le_mul_right _ c10) c9] at q2 q3
          exact ⟨v', h3', hr, q, c2, tl, q1, q2, q3⟩
      · cases E
    · cases E
  · cases E
theorem sDelP : SoundF Try.prog 66 (gDel 1) := by
  refine SoundF.remake1 dOK tabAOK fun us h v h2 E => ?_
  unfold gDel at E
  split at E
  · rename_i p n c k k2
    split at E
    · rename_i B hB
      split at E
      · rename_i hc; cases E
        obtain ⟨c2, c4, c6, c8, c8', c9, c10, c11, c12, c14⟩ := hc
        obtain ⟨i, rfl⟩ : ∃ i : Nat, k = i := ⟨k.toNat, (Int.toNat_of_nonneg c8).symm⟩
        rw [Int.toNat_natCast] at c9
        subst c8'
        obtain ⟨bc, bes, bro⟩ := B
        simp only at c2 c4 c6 c12
        subst c2 c4
        refine ⟨p, _, n, c, _, n - 1, delR bc 1 i n, rfl, hB, rfl, c6, rfl, by rw [Int.toNat_natCast], ?_, fun x hx => ?_, fun nx C js h1 h2 h3 h4 h5 => ?_⟩
        · unfold delR
          rw [List.all_append, Bool.and_eq_true]
          exact ⟨List.all_eq_true.2 fun x hx => List.all_eq_true.1 c12 x (List.mem_of_mem_take hx), List.all_eq_true.2 fun x hx => List.all_eq_true.1 c12 x (List.mem_of_mem_drop (List.mem_of_mem_take hx))⟩
        · unfold delR at hx
          rcases List.mem_append.1 hx with hx | hx
          · exact List.mem_of_mem_take hx
          · exact List.mem_of_mem_drop (List.mem_of_mem_take hx)
        · simp only at h4 c6 ⊢
          obtain ⟨v', h3', hr, q, c2, tl, q1, q2, q3⟩ := delP_ran (h := small1 nx p ⟨bc ++ js, 1, false⟩) (p := p) (n := n) (C := C) (i := i) (c0 := bc ++ js)
            (fun m B e => by
              rw [small1_get] at e
              split at e
              · rename_i z; rw [z, small1_next]; omega
              · cases e) (by rw [small1_get, if_pos rfl]) (by rw [List.length_append, h4, c6]; omega) h3 c9 c11 (by rw [List.all_append, c12, h5]; rfl)
          rw [delR_app (by rw [c6]; exact Nat.mul_le_mul_right _ c10) c9] at q2 q3
          exact ⟨v', h3', hr, q, c2, tl, q1, q2, q3⟩
      · cases E
    · cases E
  · cases E
theorem insI_ran {h : H} {p vb n C i : Nat} {c0 v1 : List Value} (wf : ∀ m B, h.get m = some B → m < h.next) (hp : h.get p = some ⟨c0, 4, false⟩) (hvb : h.get vb = some ⟨v1, 4, false⟩) (hne : p ≠ vb) (hC : c0.length = C * 4) (hn : n ≤ C) (hi : i ≤ n) (hv : v1.length = 4) (hb : n ≤ 1000000) (ha : c0.all (·.oneCell') = true) (hva : v1.all (·.oneCell') = true) :
    Cll tabA 62 [.slice (some ⟨p, 0, none⟩) n (2 * C + 1), .int .i64 (i : Int), .slice (some ⟨vb, 0, none⟩) 1 3] h (fun v h2 => ∃ q c2 tl, v = .slice (some ⟨q, 0, none⟩) (n + 1) c2 ∧ h2.get q = some ⟨insR c0 v1 4 i n ++ tl, 4, false⟩ ∧ (c2 % 2 = 1 → (insR c0 v1 4 i n ++ tl).length = c2 / 2 * 4)) := by
  have hvne : v1 ≠ [] := by intro e; subst e; simp at hv
  have W : Mem ⟨.leaf, 0⟩ h [[(p, ⟨c0, 4, false⟩)], [(vb, ⟨v1, 4, false⟩)]] [] := by
    refine ⟨wf, Nat.zero_le _, (fun n B e => by cases e), fun n hn => absurd hn (Nat.not_lt_zero _), fun x hx => ?_, by simpa using hne, fun n hn => by simp at hn, by simp⟩
    simp only [List.flatten_cons, List.flatten_nil, List.append_nil, List.singleton_append, List.mem_cons, List.not_mem_nil, or_false] at hx
    rcases hx with rfl | rfl
    · exact ⟨hp, Nat.zero_le _, rfl⟩
    · exact ⟨hvb, Nat.zero_le _, rfl⟩
  have hsv : ∀ h2 : H, h2.get vb = some ⟨v1, 4, false⟩ → srcCells h2 4 1 (.slice (some ⟨vb, 0, none⟩) 1 3) = some v1 := fun h2 e => src_row e (by decide) (by show 0 + 1 * 4 ≤ v1.length; omega) (by rw [List.drop_zero, List.take_of_length_le (by show v1.length ≤ 1 * 4; omega)])
  have hal : ∀ a b, ((c0.drop a).take b).all (·.oneCell') = true := fun a b => List.all_eq_true.2 fun x hx => List.all_eq_true.1 ha x (List.mem_of_mem_drop (List.mem_of_mem_take hx))
  refine Cll.code rfl rfl ?_
  refine WC.env [(0, _), (1, _), (2, _)] rfl ?_
  refine WC.seq ?_
  refine WC.run ?_
  refine WS.op rfl rfl (WS.nil [(0, _), (1, _), (2, _)] rfl ?_)
  refine WC.seq ?_
  refine WC.run ?_
  refine WS.op rfl rfl (WS.op rfl rfl (WS.op rfl (op_slX0 i rfl rfl hi hn) (WS.nil [(0, _), (1, _), (2, _)] rfl ?_)))
  refine WC.seq ?_
  refine WC.run ?_
  refine WS.op rfl rfl (WS.op rfl rfl (WS.op rfl rfl (WS.nil [(0, _), (1, _), (2, _), (7, _)] rfl ?_)))
  refine WC.seq ?_
  refine WC.seq ?_
  refine WC.run ?_
  refine WS.op rfl rfl (WS.opV (.bool false) rfl rfl rfl (WS.nil [(0, _), (1, _), (2, _), (7, _), (16, _)] rfl ?_))
  refine WC.condF rfl ?_
  refine WC.skip ?_
  refine WC.seq ?_
  refine WC.run ?_
  refine WS.op rfl rfl (WS.op rfl rfl (WS.op rfl rfl (WS.nil [(0, _), (1, _), (2, _), (7, _), (8, _)] rfl ?_)))
  refine WC.seq ?_
  refine WC.seq ?_
  refine WC.run ?_
  refine WS.op rfl rfl (WS.op rfl rfl ?_)
  refine WS.eqlN (a := i) (b := n) rfl rfl rfl (fun e22 => ?_) (fun e22 => ?_)
  ·
   refine WS.nil [(0, _), (1, _), (2, _), (7, _), (8, _), (22, _)] rfl ?_
   refine WC.condT rfl ?_
   refine WC.seq ?_
   refine WC.run ?_
   refine WS.op rfl rfl (WS.op rfl rfl ?_)
   refine WS.appR (cells := c0) (src := v1) (n := n) (C := C) (l := 1) (W.focus 0 rfl) rfl rfl rfl rfl (hsv _ (W.at 1 rfl)) (by rw [hv]) hC hn hva hvne (by omega) (by omega) (fun hc h1 M2 => ?_) (fun r_ h1 M2 => ?_)
   ·
    replace M2 : Mem _ _ ([(p, _)] :: [(vb, _)] :: []) _ := M2
    refine WS.op rfl rfl (WS.nil [(6, _)] rfl ?_)
    refine WC.ret ?_
    refine ⟨[_], (res_tmp rfl res_nil), ?_⟩
    refine ⟨_, _, c0.drop (n * 4 + 4), rfl, ?_, fun _ => by simp only [insR, List.length_append, List.length_take, List.length_drop, hC, hv]; omega⟩
    unfold insR
    rw [e22, Nat.sub_self, Nat.zero_mul, ← ins_end hv (by omega)]; exact (M2.at 0 rfl)
   ·
    replace M2 : Mem _ _ ([(r_, _)] :: [(p, _)] :: [(vb, _)] :: []) _ := M2
    refine WS.op rfl rfl (WS.nil [(6, _)] rfl ?_)
    refine WC.ret ?_
    refine ⟨[_], (res_tmp rfl res_nil), ?_⟩
    refine ⟨_, _, [], rfl, ?_, fun q => by omega⟩
    unfold insR
    rw [e22, Nat.sub_self, Nat.zero_mul, List.take_zero, List.append_nil, List.append_nil]; exact (M2.at 0 rfl)
  ·
   refine WS.nil [(0, _), (1, _), (2, _), (7, _), (8, _), (22, _)] rfl ?_
   refine WC.condF rfl ?_
   refine WC.skip ?_
   refine WC.seq ?_
   refine WC.seq ?_
   refine WC.run ?_
   refine WS.op rfl rfl (WS.op rfl rfl (WS.opV (.int .i64 (((n + 1) : Nat) : Int)) rfl rfl (add_i64 (a := n) (b := 1) (by omega)) (WS.op rfl rfl (WS.op rfl (op_capX (C := C) rfl) ?_))))
   refine WS.gtrN (a := (n + 1)) (b := C) rfl rfl rfl (fun e31 => ?_) (fun e31 => ?_)
   ·
    refine WS.nil [(0, _), (1, _), (2, _), (7, _), (8, _), (31, _)] rfl ?_
    refine WC.condT rfl ?_
    refine WC.seq ?_
    refine WC.run ?_
    refine WS.op rfl rfl (WS.op rfl rfl (WS.op rfl (op_slX1 i rfl rfl (by omega)) (WS.op rfl rfl (WS.op rfl rfl (WS.opV (.int .i64 (((n + 1) : Nat) : Int)) rfl rfl (add_i64 (a := n) (b := 1) (by omega)) (WS.op rfl rfl (WS.opV (.int .i64 ((((n + 1) - i) : Nat) : Int)) rfl rfl (sub_i64 (a := (n + 1)) (b := i) (by omega)) ?_)))))))
    refine WS.apzR (n := i) (C := C) (k0 := n + 1 - i) W (W.at 0 rfl) rfl rfl rfl (by omega) (by omega) (by decide) (by show i * 4 ≤ c0.length; omega) (by omega) (by omega) ?_
    intro r_ h3 M4
    replace M4 : Mem _ _ ([(r_, ⟨c0.take (i * 4) ++ zrep [(.string (bs ([]))), (.string (bs ([]))), (.int .u64 (0 : Int)), (.int .u64 (0 : Int))] (n + 1 - i), 4, false⟩)] :: [(p, _)] :: [(vb, _)] :: []) _ := M4
    refine WS.op rfl rfl (WS.nil [(0, _), (1, _), (2, _), (7, _), (9, _)] rfl ?_)
    refine WC.seq ?_
    refine WC.run ?_
    refine WS.op rfl rfl (WS.op rfl rfl (WS.op rfl (op_slE0 i (M4.at 0 rfl) rfl rfl rfl (by omega) (by omega)) (WS.op rfl rfl ?_)))
    refine WS.cpyR (cells := c0.take (i * 4) ++ zrep [(.string (bs ([]))), (.string (bs ([]))), (.int .u64 (0 : Int)), (.int .u64 (0 : Int))] (n + 1 - i)) (src := v1) (m := 1) (l := 1) (M4.focus 0 rfl) rfl rfl rfl rfl (by show min 1 ((i + (n + 1 - i)) - i) = 1; omega) (hsv _ (M4.at 2 rfl)) (by simp only [splice, List.length_append, List.length_take, List.length_drop, zrep_len, List.length_cons, List.length_nil, hC, hv]; omega) hva hvne ?_
    intro h5 M6
    replace M6 : Mem _ _ ([(r_, ⟨splice (c0.take (i * 4) ++ zrep [(.string (bs ([]))), (.string (bs ([]))), (.int .u64 (0 : Int)), (.int .u64 (0 : Int))] (n + 1 - i)) (0 + i * 4) (v1), 4, false⟩)] :: [(p, _)] :: [(vb, _)] :: []) _ := M6
    refine WS.nil [(0, _), (1, _), (7, _), (9, _)] rfl ?_
    refine WC.seq ?_
    refine WC.draw M6 [] rfl ?_
    intro rb7 h8 M9
    refine WS.op rfl rfl (WS.op rfl rfl (WS.op rfl rfl (WS.opV (.int .i64 (((i + 1) : Nat) : Int)) rfl rfl (add_i64 (a := i) (b := 1) (by omega)) (WS.op rfl (op_slE0 (i + 1) (M9.at 0 rfl) rfl rfl rfl (by omega) (by omega)) (WS.op rfl rfl (WS.op rfl rfl (WS.op rfl (op_slX0 i rfl rfl hi hn) ?_)))))))
    refine WS.cpyR (cells := splice (c0.take (i * 4) ++ zrep [(.string (bs ([]))), (.string (bs ([]))), (.int .u64 (0 : Int)), (.int .u64 (0 : Int))] (n + 1 - i)) (0 + i * 4) (v1)) (src := (c0.drop (i * 4)).take ((n - i) * 4)) (m := (n - i)) (l := (n - i)) (M9.focus 0 rfl) rfl rfl rfl rfl (by show min (n - i) ((i + (n + 1 - i)) - (i + 1)) = (n - i); omega) (src_row (M9.at 1 rfl) (by omega) (by simp only [splice, List.length_append, List.length_take, List.length_drop, hC]; omega) (by rw [Nat.zero_add])) (by simp only [splice, List.length_append, List.length_take, List.length_drop, zrep_len, List.length_cons, List.length_nil, hC, hv]; omega) (hal _ _) (by intro e; have := congrArg List.length e; simp only [List.length_take, List.length_drop, List.length_nil, hC] at this; omega) ?_
    intro h10 M11
    replace M11 : Mem _ _ ([(r_, ⟨splice (splice (c0.take (i * 4) ++ zrep [(.string (bs ([]))), (.string (bs ([]))), (.int .u64 (0 : Int)), (.int .u64 (0 : Int))] (n + 1 - i)) (0 + i * 4) (v1)) (0 + (i + 1) * 4) ((c0.drop (i * 4)).take ((n - i) * 4)), 4, false⟩)] :: [(p, _)] :: [(vb, _)] :: []) _ := M11
    refine WS.nil [(9, _)] rfl ?_
    refine WC.seq ?_
    refine WC.run ?_
    refine WS.op rfl rfl (WS.op rfl rfl (WS.nil [(6, _)] rfl ?_))
    refine WC.ret ?_
    refine ⟨[_], (res_tmp rfl res_nil), ?_⟩
    have q1 := (M11.bare.at 0 rfl)
    rw [show 0 + (i + 1) * 4 = i * 4 + 4 by omega, Nat.zero_add, ins_new hv (by omega) (by rw [zrep_len]; simp only [List.length_cons, List.length_nil]; omega)] at q1
    have e0 : i + (n + 1 - i) = n + 1 := by omega
    exact ⟨r_, 2 * (n + 1), [], by show Value.slice (some ⟨r_, 0, none⟩) (i + (n + 1 - i)) (2 * (i + (n + 1 - i))) = _; rw [e0], by rw [List.append_nil]; exact q1, fun q => by omega⟩
   ·
    refine WS.nil [(0, _), (1, _), (2, _), (7, _), (8, _), (31, _)] rfl ?_
    refine WC.condF rfl ?_
    refine WC.skip ?_
    refine WC.seq ?_
    refine WC.run ?_
    refine WS.op rfl rfl (WS.op rfl rfl (WS.op rfl rfl (WS.opV (.int .i64 (((n + 1) : Nat) : Int)) rfl rfl (add_i64 (a := n) (b := 1) (by omega)) (WS.op rfl (op_slX1 (n + 1) rfl rfl (by omega)) (WS.op rfl rfl (WS.nil [(0, _), (1, _), (2, _), (7, _), (8, _)] rfl ?_))))))
    refine WC.seq ?_
    refine WC.seq ?_
    refine WC.run ?_
    refine WS.op rfl rfl (WS.op rfl rfl (WS.op rfl rfl (WS.op rfl rfl (WS.opV (.int .i64 (((i + 1) : Nat) : Int)) rfl rfl (add_i64 (a := i) (b := 1) (by omega)) (WS.op rfl (op_slX0 (i + 1) rfl rfl (by omega) (by omega)) (WS.op rfl (op_ovlF rfl rfl (W.at 1 rfl) (W.at 0 rfl) (fun e => hne e.symm) rfl rfl (by decide) (by omega) (by simp only [hv]; decide) (by simp only [hC]; omega)) (WS.opV (.bool true) rfl rfl rfl (WS.nil [(0, _), (1, _), (2, _), (7, _), (8, _), (68, _)] rfl ?_))))))))
    refine WC.condT rfl ?_
    refine WC.seq ?_
    refine WC.draw W [] rfl ?_
    intro rb12 h13 M14
    refine WS.op rfl rfl (WS.op rfl rfl (WS.op rfl rfl (WS.opV (.int .i64 (((i + 1) : Nat) : Int)) rfl rfl (add_i64 (a := i) (b := 1) (by omega)) (WS.op rfl (op_slX0 (i + 1) rfl rfl (by omega) (by omega)) (WS.op rfl rfl (WS.op rfl rfl (WS.op rfl (op_slX0 i rfl rfl (by omega) (by omega)) ?_)))))))
    refine WS.cpyR (cells := c0) (src := (c0.drop (i * 4)).take ((n - i) * 4)) (m := (n - i)) (l := (n + 1 - i)) (M14.focus 0 rfl) rfl rfl rfl rfl (by show min (n + 1 - i) (n + 1 - (i + 1)) = (n - i); omega) (src_row (M14.at 0 rfl) (by omega) (by simp only [splice, List.length_append, List.length_take, List.length_drop, hC]; omega) (by rw [Nat.zero_add])) (by simp only [splice, List.length_append, List.length_take, List.length_drop, zrep_len, List.length_cons, List.length_nil, hC, hv]; omega) (hal _ _) (by intro e; have := congrArg List.length e; simp only [List.length_take, List.length_drop, List.length_nil, hC] at this; omega) ?_
    intro h15 M16
    replace M16 : Mem _ _ ([(p, ⟨splice (c0) (0 + (i + 1) * 4) ((c0.drop (i * 4)).take ((n - i) * 4)), 4, false⟩)] :: [(vb, _)] :: []) _ := M16
    refine WS.nil [(0, _), (1, _), (2, _)] rfl ?_
    refine WC.seq ?_
    refine WC.run ?_
    refine WS.op rfl rfl (WS.op rfl rfl (WS.op rfl (op_slX0 i rfl rfl (by omega) (by omega)) (WS.op rfl rfl ?_)))
    refine WS.cpyR (cells := splice (c0) (0 + (i + 1) * 4) ((c0.drop (i * 4)).take ((n - i) * 4))) (src := v1) (m := 1) (l := 1) (M16.bare.focus 0 rfl) rfl rfl rfl rfl (by show min 1 (n + 1 - i) = 1; omega) (hsv _ (M16.bare.at 1 rfl)) (by simp only [splice, List.length_append, List.length_take, List.length_drop, zrep_len, List.length_cons, List.length_nil, hC, hv]; omega) hva hvne ?_
    intro h17 M18
    replace M18 : Mem _ _ ([(p, ⟨splice (splice (c0) (0 + (i + 1) * 4) ((c0.drop (i * 4)).take ((n - i) * 4))) (0 + i * 4) (v1), 4, false⟩)] :: [(vb, _)] :: []) _ := M18
    refine WS.nil [(0, _)] rfl ?_
    refine WC.seq ?_
    refine WC.run ?_
    refine WS.op rfl rfl (WS.op rfl rfl (WS.nil [(6, _)] rfl ?_))
    refine WC.ret ?_
    refine ⟨[_], (res_tmp rfl res_nil), ?_⟩
    have q1 := (M18.at 0 rfl)
    rw [show 0 + (i + 1) * 4 = i * 4 + 4 by omega, Nat.zero_add, ins_mid hv (by omega)] at q1
    exact ⟨_, _, c0.drop (i * 4 + (n - i) * 4 + 4), rfl, q1, fun _ => by simp only [insR, List.length_append, List.length_take, List.length_drop, hC, hv]; omega⟩
theorem insP_ran {h : H} {p vb n C i : Nat} {c0 v1 : List Value} (wf : ∀ m B, h.get m = some B → m < h.next) (hp : h.get p = some ⟨c0, 1, false⟩) (hvb : h.get vb = some ⟨v1, 1, false⟩) (hne : p ≠ vb) (hC : c0.length = C * 1) (hn : n ≤ C) (hi : i ≤ n) (hv : v1.length = 1) (hb : n ≤ 1000000) (ha : c0.all (·.oneCell') = true) (hva : v1.all (·.oneCell') = true) :
    Cll tabA 63 [.slice (some ⟨p, 0, none⟩) n (2 * C + 1), .int .i64 (i : Int), .slice (some ⟨vb, 0, none⟩) 1 3] h (fun v h2 => ∃ q c2 tl, v = .slice (some ⟨q, 0, none⟩) (n + 1) c2 ∧ h2.get q = some ⟨insR c0 v1 1 i n ++ tl, 1, false⟩ ∧ (c2 % 2 = 1 → (insR c0 v1 1 i n ++ tl).length = c2 / 2 * 1)) := by
  have hvne : v1 ≠ [] := by intro e; subst e; simp at hv
  have W : Mem ⟨.leaf, 0⟩ h [[(p, ⟨c0, 1, false⟩)], [(vb, ⟨v1, 1, false⟩)]] [] := by
    refine ⟨wf, Nat.zero_le _, (fun n B e => by cases e), fun n hn => absurd hn (Nat.not_lt_zero _), fun x hx => ?_, by simpa using hne, fun n hn => by simp at hn, by simp⟩
    simp only [List.flatten_cons, List.flatten_nil, List.append_nil, List.singleton_append, List.mem_cons, List.not_mem_nil, or_false] at hx
    rcases hx with rfl | rfl
    · exact ⟨hp, Nat.zero_le _, rfl⟩
    · exact ⟨hvb, Nat.zero_le _, rfl⟩
  have hsv : ∀ h2 : H, h2.get vb = some ⟨v1, 1, false⟩ → srcCells h2 1 1 (.slice (some ⟨vb, 0, none⟩) 1 3) = some v1 := fun h2 e => src_row e (by decide) (by show 0 + 1 * 1 ≤ v1.length; omega) (by rw [List.drop_zero, List.take_of_length_le (by show v1.length ≤ 1 * 1; omega)])
  have hal : ∀ a b, ((c0.drop a).take b).all (·.oneCell') = true := fun a b => List.all_eq_true.2 fun x hx => List.all_eq_true.1 ha x (List.mem_of_mem_drop (List.mem_of_mem_take hx))
  refine Cll.code rfl rfl ?_
  refine WC.env [(0, _), (1, _), (2, _)] rfl ?_
  refine WC.seq ?_
  refine WC.run ?_
  refine WS.op rfl rfl (WS.nil [(0, _), (1, _), (2, _)] rfl ?_)
  refine WC.seq ?_
  refine WC.run ?_
  refine WS.op rfl rfl (WS.op rfl rfl (WS.op rfl (op_slX0 i rfl rfl hi hn) (WS.nil [(0, _), (1, _), (2, _)] rfl ?_)))
  refine WC.seq ?_
  refine WC.run ?_
  refine WS.op rfl rfl (WS.op rfl rfl (WS.op rfl rfl (WS.nil [(0, _), (1, _), (2, _), (7, _)] rfl ?_)))
  refine WC.seq ?_
  refine WC.seq ?_
  refine WC.run ?_
  refine WS.op rfl rfl (WS.opV (.bool false) rfl rfl rfl (WS.nil [(0, _), (1, _), (2, _), (7, _), (16, _)] rfl ?_))
  refine WC.condF rfl ?_
  refine WC.skip ?_
  refine WC.seq ?_
  refine WC.run ?_
  refine WS.op rfl rfl (WS.op rfl rfl (WS.op rfl rfl (WS.nil [(0, _), (1, _), (2, _), (7, _), (8, _)] rfl ?_)))
  refine WC.seq ?_
  refine WC.seq ?_
  refine WC.run ?_
  refine WS.op rfl rfl (WS.op rfl rfl ?_)
  refine WS.eqlN (a := i) (b := n) rfl rfl rfl (fun e22 => ?_) (fun e22 => ?_)
  ·
   refine WS.nil [(0, _), (1, _), (2, _), (7, _), (8, _), (22, _)] rfl ?_
   refine WC.condT rfl ?_
   refine WC.seq ?_
   refine WC.run ?_
   refine WS.op rfl rfl (WS.op rfl rfl ?_)
   refine WS.appR (cells := c0) (src := v1) (n := n) (C := C) (l := 1) (W.focus 0 rfl) rfl rfl rfl rfl (hsv _ (W.at 1 rfl)) (by rw [hv]) hC hn hva hvne (by omega) (by omega) (fun hc h1 M2 => ?_) (fun r_ h1 M2 => ?_)
   ·
    replace M2 : Mem _ _ ([(p, _)] :: [(vb, _)] :: []) _ := M2
    refine WS.op rfl rfl (WS.nil [(6, _)] rfl ?_)
    refine WC.ret ?_
    refine ⟨[_], (res_tmp rfl res_nil), ?_⟩
    refine ⟨_, _, c0.drop (n * 1 + 1), rfl, ?_, fun _ => by simp only [insR, List.length_append, List.length_take, List.length_drop, hC, hv]; omega⟩
    unfold insR
    rw [e22, Nat.sub_self, Nat.zero_mul, ← ins_end hv (by omega)]; exact (M2.at 0 rfl)
   ·
    replace M2 : Mem _ _ ([(r_, _)] :: [(p, _)] :: [(vb, _)] :: []) _ := M2
    refine WS.op rfl rfl (WS.nil [(6, _)] rfl ?_)
    refine WC.ret ?_
    refine ⟨[_], (res_tmp rfl res_nil), ?_⟩
    refine ⟨_, _, [], rfl, ?_, fun q => by omega⟩
    unfold insR
    rw [e22, Nat.sub_self, Nat.zero_mul, List.take_zero, List.append_nil, List.append_nil]; exact (M2.at 0 rfl)
  ·
   refine WS.nil [(0, _), (1, _), (2, _), (7, _), (8, _), (22, _)] rfl ?_
   refine WC.condF rfl ?_
   refine WC.skip ?_
   refine WC.seq ?_
   refine WC.seq ?_
   refine WC.run ?_
   refine WS.op rfl rfl (WS.op rfl rfl (WS.opV (.int .i64 (((n + 1) : Nat) : Int)) rfl rfl (add_i64 (a := n) (b := 1) (by omega)) (WS.op rfl rfl (WS.op rfl (op_capX (C := C) rfl) ?_))))
   refine WS.gtrN (a := (n + 1)) (b := C) rfl rfl rfl (fun e31 => ?_) (fun e31 => ?_)
   ·
    refine WS.nil [(0, _), (1, _), (2, _), (7, _), (8, _), (31, _)] rfl ?_
    refine WC.condT rfl ?_
    refine WC.seq ?_
    refine WC.run ?_
    refine WS.op rfl rfl (WS.op rfl rfl (WS.op rfl (op_slX1 i rfl rfl (by omega)) (WS.op rfl rfl (WS.op rfl rfl (WS.opV (.int .i64 (((n + 1) : Nat) : Int)) rfl rfl (add_i64 (a := n) (b := 1) (by omega)) (WS.op rfl rfl (WS.opV (.int .i64 ((((n + 1) - i) : Nat) : Int)) rfl rfl (sub_i64 (a := (n + 1)) (b := i) (by omega)) ?_)))))))
    refine WS.apzR (n := i) (C := C) (k0 := n + 1 - i) W (W.at 0 rfl) rfl rfl rfl (by omega) (by omega) (by decide) (by show i * 1 ≤ c0.length; omega) (by omega) (by omega) ?_
    intro r_ h3 M4
    replace M4 : Mem _ _ ([(r_, ⟨c0.take (i * 1) ++ zrep [(.slice none 0 0)] (n + 1 - i), 1, false⟩)] :: [(p, _)] :: [(vb, _)] :: []) _ := M4
    refine WS.op rfl rfl (WS.nil [(0, _), (1, _), (2, _), (7, _), (9, _)] rfl ?_)
    refine WC.seq ?_
    refine WC.run ?_
    refine WS.op rfl rfl (WS.op rfl rfl (WS.op rfl (op_slE0 i (M4.at 0 rfl) rfl rfl rfl (by omega) (by omega)) (WS.op rfl rfl ?_)))
    refine WS.cpyR (cells := c0.take (i * 1) ++ zrep [(.slice none 0 0)] (n + 1 - i)) (src := v1) (m := 1) (l := 1) (M4.focus 0 rfl) rfl rfl rfl rfl (by show min 1 ((i + (n + 1 - i)) - i) = 1; omega) (hsv _ (M4.at 2 rfl)) (by simp only [splice, List.length_append, List.length_take, List.length_drop, zrep_len, List.length_cons, List.length_nil, hC, hv]; omega) hva hvne ?_
    intro h5 M6
    replace M6 : Mem _ _ ([(r_, ⟨splice (c0.take (i * 1) ++ zrep [(.slice none 0 0)] (n + 1 - i)) (0 + i * 1) (v1), 1, false⟩)] :: [(p, _)] :: [(vb, _)] :: []) _ := M6
    refine WS.nil [(0, _), (1, _), (7, _), (9, _)] rfl ?_
    refine WC.seq ?_
    refine WC.draw M6 [] rfl ?_
    intro rb7 h8 M9
    refine WS.op rfl rfl (WS.op rfl rfl (WS.op rfl rfl (WS.opV (.int .i64 (((i + 1) : Nat) : Int)) rfl rfl (add_i64 (a := i) (b := 1) (by omega)) (WS.op rfl (op_slE0 (i + 1) (M9.at 0 rfl) rfl rfl rfl (by omega) (by omega)) (WS.op rfl rfl (WS.op rfl rfl (WS.op rfl (op_slX0 i rfl rfl hi hn) ?_)))))))
    refine WS.cpyR (cells := splice (c0.take (i * 1) ++ zrep [(.slice none 0 0)] (n + 1 - i)) (0 + i * 1) (v1)) (src := (c0.drop (i * 1)).take ((n - i) * 1)) (m := (n - i)) (l := (n - i)) (M9.focus 0 rfl) rfl rfl rfl rfl (by show min (n - i) ((i + (n + 1 - i)) - (i + 1)) = (n - i); omega) (src_row (M9.at 1 rfl) (by omega) (by simp only [splice, List.length_append, List.length_take, List.length_drop, hC]; omega) (by rw [Nat.zero_add])) (by simp only [splice, List.length_append, List.length_take, List.length_drop, zrep_len, List.length_cons, List.length_nil, hC, hv]; omega) (hal _ _) (by intro e; have := congrArg List.length e; simp only [List.length_take, List.length_drop, List.length_nil, hC] at this; omega) ?_
    intro h10 M11
    replace M11 : Mem _ _ ([(r_, ⟨splice (splice (c0.take (i * 1) ++ zrep [(.slice none 0 0)] (n + 1 - i)) (0 + i * 1) (v1)) (0 + (i + 1) * 1) ((c0.drop (i * 1)).take ((n - i) * 1)), 1, false⟩)] :: [(p, _)] :: [(vb, _)] :: []) _ := M11
    refine WS.nil [(9, _)] rfl ?_
    refine WC.seq ?_
    refine WC.run ?_
    refine WS.op rfl rfl (WS.op rfl rfl (WS.nil [(6, _)] rfl ?_))
    refine WC.ret ?_
    refine ⟨[_], (res_tmp rfl res_nil), ?_⟩
    have q1 := (M11.bare.at 0 rfl)
    rw [show 0 + (i + 1) * 1 = i * 1 + 1 by omega, Nat.zero_add, ins_new hv (by omega) (by rw [zrep_len]; simp only [List.length_cons, List.length_nil]; omega)] at q1
    have e0 : i + (n + 1 - i) = n + 1 := by omega
    exact ⟨r_, 2 * (n + 1), [], by show Value.slice (some ⟨r_, 0, none⟩) (i + (n + 1 - i)) (2 * (i + (n + 1 - i))) = _; rw [e0], by rw [List.append_nil]; exact q1, fun q => by omega⟩
   ·
    refine WS.nil [(0, _), (1, _), (2, _), (7, _), (8, _), (31, _)] rfl ?_
    refine WC.condF rfl ?_
    refine WC.skip ?_
    refine WC.seq ?_
    refine WC.run ?_
    refine WS.op rfl rfl (WS.op rfl rfl (WS.op rfl rfl (WS.opV (.int .i64 (((n + 1) : Nat) : Int)) rfl rfl (add_i64 (a := n) (b := 1) (by omega)) (WS.op rfl (op_slX1 (n + 1) rfl rfl (by omega)) (WS.op rfl rfl (WS.nil [(0, _), (1, _), (2, _), (7, _), (8, _)] rfl ?_))))))
    refine WC.seq ?_
    refine WC.seq ?_
    refine WC.run ?_
    refine WS.op rfl rfl (WS.op rfl rfl (WS.op rfl rfl (WS.op rfl rfl (WS.opV (.int .i64 (((i + 1) : Nat) : Int)) rfl rfl (add_i64 (a := i) (b := 1) (by omega)) (WS.op rfl (op_slX0 (i + 1) rfl rfl (by omega) (by omega)) (WS.op rfl (op_ovlF rfl rfl (W.at 1 rfl) (W.at 0 rfl) (fun e => hne e.symm) rfl rfl (by decide) (by omega) (by simp only [hv]; decide) (by simp only [hC]; omega)) (WS.opV (.bool true) rfl rfl rfl (WS.nil [(0, _), (1, _), (2, _), (7, _), (8, _), (68, _)] rfl ?_))))))))
    refine WC.condT rfl ?_
    refine WC.seq ?_
    refine WC.draw W [] rfl ?_
    intro rb12 h13 M14
    refine WS.op rfl rfl (WS.op rfl rfl (WS.op rfl rfl (WS.opV (.int .i64 (((i + 1) : Nat) : Int)) rfl rfl (add_i64 (a := i) (b := 1) (by omega)) (WS.op rfl (op_slX0 (i + 1) rfl rfl (by omega) (by omega)) (WS.op rfl rfl (WS.op rfl rfl (WS.op rfl (op_slX0 i rfl rfl (by omega) (by omega)) ?_)))))))
    refine WS.cpyR (cells := c0) (src := (c0.drop (i * 1)).take ((n - i) * 1)) (m := (n - i)) (l := (n + 1 - i)) (M14.focus 0 rfl) rfl rfl rfl rfl (by show min (n + 1 - i) (n + 1 - (i + 1)) = (n - i); omega) (src_row (M14.at 0 rfl) (by omega) (by simp only [splice, List.length_append, List.length_take, List.length_drop, hC]; omega) (by rw [Nat.zero_add])) (by simp only [splice, List.length_append, List.length_take, List.length_drop, zrep_len, List.length_cons, List.length_nil, hC, hv]; omega) (hal _ _) (by intro e; have := congrArg List.length e; simp only [List.length_take, List.length_drop, List.length_nil, hC] at this; omega) ?_
    intro h15 M16
    replace M16 : Mem _ _ ([(p, ⟨splice (c0) (0 + (i + 1) * 1) ((c0.drop (i * 1)).take ((n - i) * 1)), 1, false⟩)] :: [(vb, _)] :: []) _ := M16
    refine WS.nil [(0, _), (1, _), (2, _)] rfl ?_
    refine WC.seq ?_
    refine WC.run ?_
    refine WS.op rfl rfl (WS.op rfl rfl (WS.op rfl (op_slX0 i rfl rfl (by omega) (by omega)) (WS.op rfl rfl ?_)))
    refine WS.cpyR (cells := splice (c0) (0 + (i + 1) * 1) ((c0.drop (i * 1)).take ((n - i) * 1))) (src := v1) (m := 1) (l := 1) (M16.bare.focus 0 rfl) rfl rfl rfl rfl (by show min 1 (n + 1 - i) = 1; omega) (hsv _ (M16.bare.at 1 rfl)) (by simp only [splice, List.length_append, List.length_take, List.length_drop, zrep_len, List.length_cons, List.length_nil, hC, hv]; omega) hva hvne ?_
    intro h17 M18
    replace M18 : Mem _ _ ([(p, ⟨splice (splice (c0) (0 + (i + 1) * 1) ((c0.drop (i * 1)).take ((n - i) * 1))) (0 + i * 1) (v1), 1, false⟩)] :: [(vb, _)] :: []) _ := M18
    refine WS.nil [(0, _)] rfl ?_
    refine WC.seq ?_
    refine WC.run ?_
    refine WS.op rfl rfl (WS.op rfl rfl (WS.nil [(6, _)] rfl ?_))
    refine WC.ret ?_
    refine ⟨[_], (res_tmp rfl res_nil), ?_⟩
    have q1 := (M18.at 0 rfl)
    rw [show 0 + (i + 1) * 1 = i * 1 + 1 by omega, Nat.zero_add, ins_mid hv (by omega)] at q1
    exact ⟨_, _, c0.drop (i * 1 + (n - i) * 1 + 1), rfl, q1, fun _ => by simp only [insR, List.length_append, List.length_take, List.length_drop, hC, hv]; omega⟩
theorem sInsI : SoundF Try.prog 62 (gIns 4) := by
  refine SoundF.remake dOK tabAOK fun us h v h2 E => ?_
  unfold gIns at E
  split at E
  · rename_i p n c k vb
    split at E
    · rename_i B hB
      split at E
      · rename_i Bv hBv
        split at E
        · rename_i hc; cases E
          obtain ⟨c1, c2, c3, c4, c5, c6, c7, c8, c9, c10, c11, c12, c13, c14, c15⟩ := hc
          obtain ⟨i, rfl⟩ : ∃ i : Nat, k = i := ⟨k.toNat, (Int.toNat_of_nonneg c8).symm⟩
          rw [Int.toNat_natCast] at c9
          obtain ⟨bc, bes, bro⟩ := B
          obtain ⟨vc, ves, vro⟩ := Bv
          simp only at c2 c3 c4 c5 c6 c7 c12 c13
          subst c2 c3 c4 c5
          refine ⟨p, vb, _, _, n, c, _, n + 1, insR bc vc 4 i n, rfl, hB, rfl, hBv, rfl, c1, c6, rfl, by rw [Int.toNat_natCast], ?_, fun x hx => ?_, fun nx C js h1 h2 h3 h4 h5 => ?_⟩
          · unfold insR
            rw [List.all_append, List.all_append, c13, Bool.and_true, Bool.and_eq_true]
            exact ⟨List.all_eq_true.2 fun x hx => List.all_eq_true.1 c12 x (List.mem_of_mem_take hx), List.all_eq_true.2 fun x hx => List.all_eq_true.1 c12 x (List.mem_of_mem_drop (List.mem_of_mem_take hx))⟩
          · unfold insR at hx
            rcases List.mem_append.1 hx with hx | hx
            · rcases List.mem_append.1 hx with hx | hx
              · exact .inl (List.mem_of_mem_take hx)
              · exact .inr hx
            · exact .inl (List.mem_of_mem_drop (List.mem_of_mem_take hx))
          · simp only at h4 c6 ⊢
            obtain ⟨v', h3', hr, q, c2, tl, q1, q2, q3⟩ := insI_ran (h := small nx p vb ⟨bc ++ js, 4, false⟩ ⟨vc, 4, false⟩) (p := p) (vb := vb) (n := n) (C := C) (i := i) (c0 := bc ++ js) (v1 := vc)
              (fun m B e => by
                rw [small_get] at e
                split at e
                · rename_i z; rw [z, small_next]; omega
                · split at e
                  · rename_i z; rw [z, small_next]; omega
                  · cases e) (by rw [small_get, if_neg c1, if_pos rfl]) (by rw [small_get, if_pos rfl]) c1 (by rw [List.length_append, h4, c6]; omega) h3 c9 c7 c11 (by rw [List.all_append, c12, h5]; rfl) c13
            rw [insR_app (by rw [c6]; exact Nat.mul_le_mul_right _ c10) c9] at q2 q3
            exact ⟨v', h3', hr, q, c2, tl, q1, q2, q3⟩
        · cases E
      · cases E
    · cases E
  · cases E
theorem sInsP : SoundF Try.prog 63 (gIns 1) := by
  refine SoundF.remake dOK tabAOK fun us h v h2 E => ?_
  unfold gIns at E
  split at E
  · rename_i p n c k vb
    split at E
    · rename_i B hB
      split at E
      · rename_i Bv hBv
        split at E
        · rename_i hc; cases E
          obtain ⟨c1, c2, c3, c4, c5, c6, c7, c8, c9, c10, c11, c12, c13, c14, c15⟩ := hc
          obtain ⟨i, rfl⟩ : ∃ i : Nat, k = i := ⟨k.toNat, (Int.toNat_of_nonneg c8).symm⟩
          rw [Int.toNat_natCast] at c9
          obtain ⟨bc, bes, bro⟩ := B
          obtain ⟨vc, ves, vro⟩ := Bv
          simp only at c2 c3 c4 c5 c6 c7 c12 c13
          subst c2 c3 c4 c5
          refine ⟨p, vb, _, _, n, c, _, n + 1, insR bc vc 1 i n, rfl, hB, rfl, hBv, rfl, c1, c6, rfl, by rw [Int.toNat_natCast], ?_, fun x hx => ?_, fun nx C js h1 h2 h3 h4 h5 => ?_⟩
          · unfold insR
            rw [List.all_append, List.all_append, c13, Bool.and_true, Bool.and_eq_true]
            exact ⟨List.all_eq_true.2 fun x hx => List.all_eq_true.1 c12 x (List.mem_of_mem_take hx), List.all_eq_true.2 fun x hx => List.all_eq_true.1 c12 x (List.mem_of_mem_drop (List.mem_of_mem_take hx))⟩
          · unfold insR at hx
            rcases List.mem_append.1 hx with hx | hx
            · rcases List.mem_append.1 hx with hx | hx
              · exact .inl (List.mem_of_mem_take hx)
              · exact .inr hx
            · exact .inl (List.mem_of_mem_drop (List.mem_of_mem_take hx))
          · simp only at h4 c6 ⊢
            obtain ⟨v', h3', hr, q, c2, tl, q1, q2, q3⟩ := insP_ran (h := small nx p vb ⟨bc ++ js, 1, false⟩ ⟨vc, 1, false⟩) (p := p) (vb := vb) (n := n) (C := C) (i := i) (c0 := bc ++ js) (v1 := vc)
              (fun m B e => by
                rw [small_get] at e
                split at e
                · rename_i z; rw [z, small_next]; omega
                · split at e
                  · rename_i z; rw [z, small_next]; omega
                  · cases e) (by rw [small_get, if_neg c1, if_pos rfl]) (by rw [small_get, if_pos rfl]) c1 (by rw [List.length_append, h4, c6]; omega) h3 c9 c7 c11 (by rw [List.all_append, c12, h5]; rfl) c13
            rw [insR_app (by rw [c6]; exact Nat.mul_le_mul_right _ c10) c9] at q2 q3
            exact ⟨v', h3', hr, q, c2, tl, q1, q2, q3⟩
        · cases E
      · cases E
    · cases E
  · cases E
end Go.Proofs.Ytkfjlbdedjoojaa.Wt
namespace Go.Proofs.Ytkfjlbdedjoojaa.IrAll
open Go Go.Proofs.Ytkfjlbdedjoojaa.Am
def tab0 : Nat → Option FD := fun f => if f = 62 then some (.spec (Wt.gIns 4)) else if f = 63 then some (.spec (Wt.gIns 1)) else if f = 65 then some (.spec (Wt.gDel 4)) else if f = 66 then some (.spec (Wt.gDel 1)) else tabA f
theorem tab0OK : TabOK Try.prog tab0 := by
  intro f d h
  unfold tab0 at h
  split at h
  · rename_i e; subst e; cases h; exact Wt.sInsI
  · split at h
    · rename_i e; subst e; cases h; exact Wt.sInsP
    · split at h
      · rename_i e; subst e; cases h; exact Wt.sDelI
      · split at h
        · rename_i e; subst e; cases h; exact Wt.sDelP
        · exact tabAOK f d h
theorem awake_run (h : H) : Ran tab0 10 [] h (.bool true) h := Ran.spec (g := gAw) rfl rfl
end Go.Proofs.Ytkfjlbdedjoojaa.IrAll
namespace Go.Proofs.Ytkfjlbdedjoojaa.Wt
open Go Go.Proofs.Ytkfjlbdedjoojaa.Am Go.Proofs.Ytkfjlbdedjoojaa.IrAll
set_option linter.unusedVariables false
set_option linter.unusedSimpArgs false
structure It where
  ky : List UInt8
  va : List UInt8
  vn : UInt64
  ls : UInt64
  deriving DecidableEq
def It.cells (x : It) : List Value := [(.string (bs x.ky)), (.string (bs x.va)), (.int .u64 (((x.vn).toNat : Nat) : Int)), (.int .u64 (((x.ls).toNat : Nat) : Int))]
def KIt : Row It := ⟨It.cells, 4, fun _ => rfl, by decide, fun _ => rfl⟩
structure Vl where
  val : List UInt8
  ver : UInt64
  lea : UInt64
  deriving DecidableEq
def Vl.cells (x : Vl) : List Value := [(.string (bs x.val)), (.int .u64 (((x.ver).toNat : Nat) : Int)), (.int .u64 (((x.lea).toNat : Nat) : Int))]
def kL (a b : List UInt8) : Prop := Op.bytesLess a b = true
instance (a b : List UInt8) : Decidable (kL a b) := by unfold kL; infer_instance
theorem kL_nil {a : List UInt8} : ¬ kL a [] := by unfold kL; cases a <;> simp [Op.bytesLess]
theorem kL_cons {a b : UInt8} {x y : List UInt8} : kL (a :: x) (b :: y) ↔ a < b ∨ (a = b ∧ kL x y) := by
  unfold kL; simp [Op.bytesLess]
theorem kL_irr : ∀ {a : List UInt8}, ¬ kL a a := by
  intro a
  induction a with
  | nil => exact kL_nil
  | cons a x ih => rw [kL_cons]; rintro (h | ⟨_, h⟩); (exact absurd h (UInt8.lt_irrefl a)); exact ih h
theorem kL_tr : ∀ {a b c : List UInt8}, kL a b → kL b c → kL a c := by
  intro a
  induction a with
  | nil =>
    intro b c h k
    cases c with
    | nil => exact absurd k kL_nil
    | cons c z => unfold kL; rfl
  | cons a x ih =>
    intro b c h k
    cases b with
    | nil => exact absurd h kL_nil
    | cons b y =>
      cases c with
      | nil => exact absurd k kL_nil
      | cons c z =>
        rw [kL_cons] at h k ⊢
        rcases h with h | ⟨rfl, h⟩
        · rcases k with k | ⟨rfl, k⟩
          · exact .inl (UInt8.lt_trans h k)
          · exact .inl h
        · rcases k with k | ⟨rfl, k⟩
          · exact .inl k
          · exact .inr ⟨rfl, ih h k⟩
theorem kL_tot : ∀ {a b : List UInt8}, ¬ kL a b → ¬ kL b a → a = b := by
  intro a
  induction a with
  | nil =>
    intro b h k
    cases b with
    | nil => rfl
    | cons b y => exact absurd (show kL [] (b :: y) from rfl) h
  | cons a x ih =>
    intro b h k
    cases b with
    | nil => exact absurd (show kL [] (a :: x) from rfl) k
    | cons b y =>
      rw [kL_cons, not_or, not_and] at h k
      have e : a = b := UInt8.le_antisymm (UInt8.not_lt.1 k.1) (UInt8.not_lt.1 h.1)
      subst e
      rw [ih (h.2 rfl) (k.2 rfl)]
theorem kL_asym {a b : List UInt8} (h : kL a b) : ¬ kL b a := fun k => kL_irr (kL_tr h k)
theorem kL_lt_le {a b c : List UInt8} (h : kL a b) (k : ¬ kL c b) : kL a c := by
  by_cases q : kL b c
  · exact kL_tr h q
  · rw [← kL_tot q k]; exact h
section
variable {tab : Nat → Option FD} {q : Env → H → Prop} {e : Env} {h : H} {rb : Nat} {ss : List Step} {d : Option Nat} {g : Option (Nat × Bool)} {x y : Operand}
theorem kL_bs (l m : List UInt8) : Op.bytesLess (bs l).toList (bs m).toList = decide (kL l m) := by
  rw [bs_toList, bs_toList]
  by_cases c : kL l m
  · rw [decide_eq_true c]; exact c
  · rw [decide_eq_false c]; exact Bool.eq_false_iff.2 c
theorem kL_le (l m : List UInt8) : (Op.bytesLess (bs l).toList (bs m).toList || (bs l).toList == (bs m).toList) = !decide (kL m l) := by
  rw [kL_bs, bs_toList, bs_toList]
  by_cases c1 : kL l m
  · rw [decide_eq_true c1, decide_eq_false (kL_asym c1)]; rfl
  · rw [decide_eq_false c1]
    by_cases c2 : kL m l
    · rw [decide_eq_true c2]
      have : (l == m) = false := by simp; intro e; subst e; exact kL_irr c2
      rw [this]; rfl
    · rw [decide_eq_false c2, kL_tot c1 c2]; simp
theorem WS.slss {l m : List UInt8} (hg : gd e g = some true) (hx : ev e x = some (.string (bs l))) (hy : ev e y = some (.string (bs m))) (kt : kL l m → WS tab rb ss (put e d (.bool true)) h q) (kf : ¬ kL l m → WS tab rb ss (put e d (.bool false)) h q) : WS tab rb (.op d g (.bin .lss x y) :: ss) e h q := by
  have hv : binV .lss (.string (bs l)) (.string (bs m)) = some (.bool (decide (kL l m))) := by simp only [binV, kL_bs]
  by_cases c : kL l m
  · exact .opV _ hg (op_bin2 hx hy hv) (by simp [c]) (kt c)
  · exact .opV _ hg (op_bin2 hx hy hv) (by simp [c]) (kf c)
theorem WS.sgtr {l m : List UInt8} (hg : gd e g = some true) (hx : ev e x = some (.string (bs l))) (hy : ev e y = some (.string (bs m))) (kt : kL m l → WS tab rb ss (put e d (.bool true)) h q) (kf : ¬ kL m l → WS tab rb ss (put e d (.bool false)) h q) : WS tab rb (.op d g (.bin .gtr x y) :: ss) e h q := by
  have hv : binV .gtr (.string (bs l)) (.string (bs m)) = some (.bool (decide (kL m l))) := by simp only [binV, kL_le, Bool.not_not]
  by_cases c : kL m l
  · exact .opV _ hg (op_bin2 hx hy hv) (by simp [c]) (kt c)
  · exact .opV _ hg (op_bin2 hx hy hv) (by simp [c]) (kf c)
theorem WS.sgeq {l m : List UInt8} (hg : gd e g = some true) (hx : ev e x = some (.string (bs l))) (hy : ev e y = some (.string (bs m))) (kt : ¬ kL l m → WS tab rb ss (put e d (.bool true)) h q) (kf : kL l m → WS tab rb ss (put e d (.bool false)) h q) : WS tab rb (.op d g (.bin .geq x y) :: ss) e h q := by
  have hv : binV .geq (.string (bs l)) (.string (bs m)) = some (.bool (!decide (kL l m))) := by simp only [binV, kL_bs]
  by_cases c : kL l m
  · exact .opV _ hg (op_bin2 hx hy hv) (by simp [c]) (kf c)
  · exact .opV _ hg (op_bin2 hx hy hv) (by simp [c]) (kt c)
end
structure Pg where
  b : Nat
  c : Nat
  l : List It
def Pg.val (g : Pg) : Value := .slice (some ⟨g.b, 0, none⟩) g.l.length g.c
def KPg : Row Pg := ⟨fun g => [g.val], 1, fun _ => rfl, by decide, fun _ => rfl⟩
def pseg (gs : List Pg) : Seg := gs.map fun g => (g.b, ⟨KIt.flat g.l, 4, false⟩)
def POK (gs : List Pg) : Prop := ∀ g ∈ gs, g.c / 2 = g.l.length
def lst (gs : List Pg) : List (List It) := gs.map Pg.l
inductive Outer : Value → List Pg → Seg → Prop
  | nil : Outer (.slice none 0 0) [] []
  | row (po : Nat) (gs : List Pg) (c : Nat) (hc : c / 2 = gs.length) : Outer (.slice (some ⟨po, 0, none⟩) gs.length c) gs [(po, ⟨KPg.flat gs, 1, false⟩)]
section
variable {base h h2 : H} {L : List Seg} {R : List Nat} {α : Type} {K : Row α}
theorem sl_all {p c : Nat} {l : List α} {es : Nat} {ro : Bool} (hb : h.get p = some ⟨K.flat l, es, ro⟩) : K.Sl h (.slice (some ⟨p, 0, none⟩) l.length c) l :=
  .row p 0 c l ⟨_, hb, by simp, by simp⟩
structure PgR (h : H) (p : Nat) (gs : List Pg) (n : Nat) : Prop where
  at_ : ∃ Vo, h.get p = some ⟨[Vo, .int .i64 (n : Int)], 0, false⟩ ∧ KPg.Sl h Vo gs
  pg : ∀ g ∈ gs, h.get g.b = some ⟨KIt.flat g.l, 4, false⟩
theorem PgR.mono {p n : Nat} {gs : List Pg} (A : PgR h p gs n) (hs : ∀ n B, h.get n = some B → h2.get n = some B) : PgR h2 p gs n := by
  obtain ⟨⟨Vo, a, b⟩, c⟩ := A
  exact ⟨⟨Vo, hs _ _ a, b.mono hs⟩, fun g hg => hs _ _ (c g hg)⟩
theorem outer_sl {V : Value} {gs : List Pg} {S : Seg} (O : Outer V gs S) (M : ∀ p ∈ S, h.get p.1 = some p.2) : KPg.Sl h V gs := by
  cases O with
  | nil => exact .nil
  | row po gs c hc => exact sl_all (M _ (List.mem_singleton.2 rfl))
theorem pseg_sl {gs : List Pg} (M : ∀ p ∈ pseg gs, h.get p.1 = some p.2) : ∀ g ∈ gs, h.get g.b = some ⟨KIt.flat g.l, 4, false⟩ := fun g hg => M (g.b, ⟨KIt.flat g.l, 4, false⟩) (List.mem_map.2 ⟨g, hg, rfl⟩)
theorem Pg.sl {g : Pg} (hb : h.get g.b = some ⟨KIt.flat g.l, 4, false⟩) : KIt.Sl h g.val g.l := sl_all hb
theorem op_slPg {e : Env} {x y : Operand} {k : IntKind} {g : Pg} (a : Nat) (hb : h.get g.b = some ⟨KIt.flat g.l, 4, false⟩) (hc : g.c / 2 = g.l.length) (ha : a ≤ g.l.length) (hx : ev e x = some g.val) (hy : ev e y = some (.int k (a : Int))) : opE (.slV 4 x (some y) none none) e h none = some (.slice (some ⟨g.b, 0 + a * 4, none⟩) (g.l.drop a).length (2 * (g.c / 2 - a) + g.c % 2), h) := by
  have hnn : bnd e none = some none := rfl
  simp only [opE, hx, Pg.val, bnd_nat hy, hnn, Option.getD_some, Option.getD_none]
  rw [if_pos ⟨by omega, by omega, by omega, by simp⟩, List.length_drop]
  rcases Nat.mod_two_eq_zero_or_one g.c with q | q
  · rw [if_neg (by simp [q])]
    simp only [hb, if_true, q, Nat.add_zero]
  · rw [if_pos (.inl q), q]
theorem slPg {g : Pg} (a c : Nat) (hb : h.get g.b = some ⟨KIt.flat g.l, 4, false⟩) (ha : a ≤ g.l.length) : KIt.Sl h (.slice (some ⟨g.b, 0 + a * 4, none⟩) (g.l.drop a).length c) (g.l.drop a) := by
  refine .row g.b (0 + a * 4) c (g.l.drop a) ⟨_, hb, ?_, ?_⟩
  · simp only [KIt.flat_length, List.length_drop]; show 0 + a * 4 + (g.l.length - a) * 4 ≤ g.l.length * 4; omega
  · have h1 : KIt.flat g.l = KIt.flat (g.l.take a) ++ KIt.flat (g.l.drop a) := by rw [← KIt.flat_append, List.take_append_drop]
    have h2 : 0 + a * 4 = (KIt.flat (g.l.take a)).length := by rw [KIt.flat_length, List.length_take, Nat.min_eq_left ha]; show 0 + a * 4 = a * 4; omega
    rw [h2]; conv => lhs; rw [h1]
    rw [List.drop_left, List.take_length]
def PgSt (p : Nat) (LL : List (List It)) (S : Seg) : Prop := ∃ Vo So gs, S = (p, ⟨[Vo, .int .i64 ((LL.flatten.length : Nat) : Int)], 0, false⟩) :: (So ++ pseg gs) ∧ Outer Vo gs So ∧ POK gs ∧ lst gs = LL
theorem PgSt.open {p : Nat} {LL : List (List It)} {S : Seg} (G : PgSt p LL S) (M : Mem base h (S :: L) R) : ∃ Vo So gs, Outer Vo gs So ∧ POK gs ∧ lst gs = LL ∧ Mem base h ([(p, ⟨[Vo, .int .i64 ((LL.flatten.length : Nat) : Int)], 0, false⟩)] :: So :: pseg gs :: L) R := by
  obtain ⟨Vo, So, gs, rfl, a, b, c⟩ := G
  exact ⟨Vo, So, gs, a, b, c, M.perm (by simp)⟩
theorem PgSt.shut {p : Nat} {LL : List (List It)} {Vo : Value} {So : Seg} {gs : List Pg} {n : Nat} (O : Outer Vo gs So) (hp : POK gs) (hl : lst gs = LL) (hn : n = LL.flatten.length) (M : Mem base h ([(p, ⟨[Vo, .int .i64 ((n : Nat) : Int)], 0, false⟩)] :: So :: pseg gs :: L) R) : ∃ S, PgSt p LL S ∧ Mem base h (S :: L) R := by
  subst hn
  exact ⟨_, ⟨Vo, So, gs, rfl, O, hp, hl⟩, M.perm (by simp)⟩
theorem PgSt.read {p : Nat} {LL : List (List It)} {S : Seg} (G : PgSt p LL S) (M : ∀ p ∈ S, h.get p.1 = some p.2) : ∃ gs, lst gs = LL ∧ POK gs ∧ PgR h p gs LL.flatten.length := by
  obtain ⟨Vo, So, gs, rfl, a, b, c⟩ := G
  refine ⟨gs, c, b, ⟨Vo, M _ (List.mem_cons_self ..), outer_sl a fun q hq => M q (List.mem_cons_of_mem _ (List.mem_append_left _ hq))⟩, pseg_sl fun q hq => M q (List.mem_cons_of_mem _ (List.mem_append_right _ hq))⟩
theorem outer_some {V : Value} {gs : List Pg} {S : Seg} (O : Outer V gs S) (hne : gs ≠ []) : ∃ po c, c / 2 = gs.length ∧ V = .slice (some ⟨po, 0, none⟩) gs.length c ∧ S = [(po, ⟨KPg.flat gs, 1, false⟩)] := by
  cases O with
  | nil => exact absurd rfl hne
  | row po gs c hc => exact ⟨po, c, hc, rfl, rfl⟩
theorem outer_len {V : Value} {gs : List Pg} {S : Seg} (O : Outer V gs S) : ∃ P c, V = .slice P gs.length c := by
  cases O with
  | nil => exact ⟨_, _, rfl⟩
  | row po gs c hc => exact ⟨_, _, rfl⟩
theorem same_sl (P : Option Addr) (n c : Nat) : sameV (.slice P n c) (.slice P n c) = true := by
  exact same1_self rfl (.inl ⟨P, n, c, rfl⟩)
theorem ins_call {f : Nat} (ht : tab0 f = some (.spec (gIns K.n))) {p vb c i ln : Nat} {l : List α} {x : α} (hln : ln = l.length) (M : Mem base h ([(p, ⟨K.flat l, K.n, false⟩)] :: [(vb, ⟨K.cells x, K.n, false⟩)] :: L) []) (hc : c / 2 = l.length) (hi : i ≤ l.length) (hl : l.length ≤ 1000000) :
    Cll tab0 f [.slice (some ⟨p, 0, none⟩) ln c, .int .i64 (i : Int), .slice (some ⟨vb, 0, none⟩) 1 3] h (fun v h2 => ∃ q l1, l1 = l.take i ++ x :: l.drop i ∧ v = .slice (some ⟨q, 0, none⟩) l1.length (2 * l1.length) ∧ Mem base h2 ([(q, ⟨K.flat l1, K.n, false⟩)] :: L) []) := by
  subst hln
  have hp : h.get p = some ⟨K.flat l, K.n, false⟩ := M.at 0 rfl
  have hv : h.get vb = some ⟨K.cells x, K.n, false⟩ := M.at 1 rfl
  have hne : p ≠ vb := by have := M.nd; simp at this; exact this.1.1
  have e1 : l.length * K.n = (K.flat l).length := by rw [K.flat_length]
  have hr : insR (K.flat l) (K.cells x) K.n i l.length = K.flat (l.take i ++ x :: l.drop i) := by
    unfold insR
    have h1 : K.flat l = K.flat (l.take i) ++ K.flat (l.drop i) := by rw [← K.flat_append, List.take_append_drop]
    have h2 : i * K.n = (K.flat (l.take i)).length := by rw [K.flat_length, List.length_take, Nat.min_eq_left hi]
    have h3 : (l.length - i) * K.n = (K.flat (l.drop i)).length := by rw [K.flat_length, List.length_drop]
    rw [h3, h2, h1, List.take_left, List.drop_left, List.take_length, K.flat_append, K.flat_cons, List.append_assoc]
  refine ⟨_, _, Ran.spec ht (v := .slice (some ⟨h.next, 0, none⟩) (l.length + 1) (2 * (l.length + 1))) (h2 := ((h.set p none).set vb none).alloc ⟨K.flat (l.take i ++ x :: l.drop i), K.n, false⟩) ?_, h.next, _, rfl, by rw [show (l.take i ++ x :: l.drop i).length = l.length + 1 by simp; omega], ?_⟩
  · simp only [gIns, hp, hv]
    rw [if_pos ⟨hne, trivial, trivial, trivial, trivial, by rw [hc, K.flat_length], K.len x, by omega, by simpa using hi, by omega, hl, K.flat_plain l, K.pl x, M.wf _ _ hp, M.wf _ _ hv⟩, Int.toNat_natCast, hr]
  · have M1 := (Mem.free (S1 := []) (S2 := []) M).drop
    have M2 := (Mem.free (S1 := []) (S2 := []) M1).drop
    exact M2.alloc _
end
end Go.Proofs.Ytkfjlbdedjoojaa.Wt
namespace Go.Proofs.Ytkfjlbdedjoojaa.Wt
open Go Go.Proofs.Ytkfjlbdedjoojaa.Am
set_option linter.unusedVariables false
set_option linter.unusedSimpArgs false
def SrtI (l : List It) : Prop := l.Pairwise fun x y => kL x.ky y.ky
def putF (F : List It) (it : It) : List It := F.filter (fun x => decide (kL x.ky it.ky)) ++ it :: F.filter (fun x => decide (kL it.ky x.ky))
def delF (F : List It) (key : List UInt8) : List It := F.filter fun x => decide (x.ky ≠ key)
def getF (F : List It) (key : List UInt8) : Option It := F.find? fun x => decide (x.ky = key)
def IsCut (key : List UInt8) (l : List It) (a : Nat) : Prop := a ≤ l.length ∧ (∀ k x, k < a → l[k]? = some x → kL x.ky key) ∧ ∀ k x, a ≤ k → l[k]? = some x → ¬ kL x.ky key
theorem cut_parts {key : List UInt8} {l : List It} {a : Nat} (c : IsCut key l a) : (∀ x ∈ l.take a, kL x.ky key) ∧ (∀ x ∈ l.drop a, ¬ kL x.ky key) := by
  constructor
  · intro x hx
    obtain ⟨k, hk, rfl⟩ := List.getElem_of_mem hx
    rw [List.length_take] at hk
    exact c.2.1 k _ (by omega) (by rw [List.getElem_take]; exact List.getElem?_eq_getElem (by omega))
  · intro x hx
    obtain ⟨k, hk, rfl⟩ := List.getElem_of_mem hx
    rw [List.length_drop] at hk
    exact c.2.2 (a + k) _ (by omega) (by rw [List.getElem_drop]; exact List.getElem?_eq_getElem (by omega))
theorem filter_all {α : Type} {p : α → Bool} {l : List α} (h : ∀ x ∈ l, p x = true) : l.filter p = l := List.filter_eq_self.2 h
theorem filter_none {α : Type} {p : α → Bool} {l : List α} (h : ∀ x ∈ l, p x = false) : l.filter p = [] := List.filter_eq_nil_iff.2 fun x hx => by rw [h x hx]; simp
theorem srt_app {a b : List It} : SrtI (a ++ b) ↔ SrtI a ∧ SrtI b ∧ ∀ x ∈ a, ∀ y ∈ b, kL x.ky y.ky := List.pairwise_append
theorem srt_cons {a : It} {b : List It} : SrtI (a :: b) ↔ (∀ y ∈ b, kL a.ky y.ky) ∧ SrtI b := List.pairwise_cons
theorem put_there {l : List It} {a : Nat} {it y : It} (hs : SrtI l) (c : IsCut it.ky l a) (hy : l[a]? = some y) (he : y.ky = it.ky) : putF l it = l.set a it := by
  obtain ⟨c1, c2⟩ := cut_parts c
  have ha := (List.getElem?_eq_some_iff.1 hy).1
  have e : l = l.take a ++ y :: l.drop (a + 1) := by
    rw [← (List.getElem?_eq_some_iff.1 hy).2, List.getElem_cons_drop, List.take_append_drop]
  rw [e] at hs
  obtain ⟨h1, h2, h3⟩ := srt_app.1 hs
  obtain ⟨h4, h5⟩ := srt_cons.1 h2
  have hset : l.set a it = l.take a ++ it :: l.drop (a + 1) := by rw [List.set_eq_take_append_cons_drop, if_pos ha]
  rw [hset]; unfold putF
  have f1 : l.filter (fun x => decide (kL x.ky it.ky)) = l.take a := by
    conv => lhs; rw [e]
    rw [List.filter_append, filter_all (fun x hx => decide_eq_true (c1 x hx)), filter_none (l := y :: _) (fun x hx => ?_), List.append_nil]
    rcases List.mem_cons.1 hx with rfl | hx
    · exact decide_eq_false (by rw [he]; exact kL_irr)
    · exact decide_eq_false (by rw [← he]; exact kL_asym (h4 x hx))
  have f2 : l.filter (fun x => decide (kL it.ky x.ky)) = l.drop (a + 1) := by
    conv => lhs; rw [e]
    rw [List.filter_append, filter_none (fun x hx => decide_eq_false (kL_asym (c1 x hx))), List.nil_append, List.filter_cons_of_neg (by simp [he, kL_irr]), filter_all (fun x hx => decide_eq_true (by rw [← he]; exact h4 x hx))]
  rw [f1, f2]
theorem put_new {l : List It} {a : Nat} {it : It} (hs : SrtI l) (c : IsCut it.ky l a) (hn : ∀ y, l[a]? = some y → y.ky ≠ it.ky) : putF l it = l.take a ++ it :: l.drop a := by
  obtain ⟨c1, c2⟩ := cut_parts c
  have e : l = l.take a ++ l.drop a := (List.take_append_drop a l).symm
  have hs2 := hs
  rw [e] at hs2
  obtain ⟨h1, h2, h3⟩ := srt_app.1 hs2
  have gt : ∀ x ∈ l.drop a, kL it.ky x.ky := by
    intro x hx
    cases hd : l.drop a with
    | nil => rw [hd] at hx; cases hx
    | cons y r =>
      have hy : l[a]? = some y := by
        have := congrArg (fun z => z[0]?) hd
        simpa using this
      have hlt : kL it.ky y.ky := by
        apply Classical.byContradiction
        intro q
        exact hn y hy (kL_tot (c2 y (by rw [hd]; exact List.mem_cons_self ..)) q)
      rw [hd] at hx h2
      rcases List.mem_cons.1 hx with rfl | hx
      · exact hlt
      · exact kL_tr hlt ((srt_cons.1 h2).1 x hx)
  unfold putF
  have f1 : l.filter (fun x => decide (kL x.ky it.ky)) = l.take a := by
    conv => lhs; rw [e]
    rw [List.filter_append, filter_all (fun x hx => decide_eq_true (c1 x hx)), filter_none (fun x hx => decide_eq_false (c2 x hx)), List.append_nil]
  have f2 : l.filter (fun x => decide (kL it.ky x.ky)) = l.drop a := by
    conv => lhs; rw [e]
    rw [List.filter_append, filter_none (fun x hx => decide_eq_false (kL_asym (c1 x hx))), List.nil_append, filter_all (fun x hx => decide_eq_true (gt x hx))]
  rw [f1, f2]
theorem get_there {l : List It} {a : Nat} {key : List UInt8} {y : It} (c : IsCut key l a) (hy : l[a]? = some y) (he : y.ky = key) : getF l key = some y := by
  obtain ⟨c1, c2⟩ := cut_parts c
  have e : l = l.take a ++ y :: l.drop (a + 1) := by
    rw [← (List.getElem?_eq_some_iff.1 hy).2, List.getElem_cons_drop, List.take_append_drop]
  unfold getF
  rw [e, List.find?_append, List.find?_eq_none.2 (fun x hx => by have := c1 x hx; simp; intro q; rw [q] at this; exact kL_irr this), Option.none_or, List.find?_cons_of_pos (p := fun x : It => decide (x.ky = key)) (by simpa using he)]
theorem cut_not {l : List It} {a : Nat} {key : List UInt8} (hs : SrtI l) (c : IsCut key l a) (hn : ∀ y, l[a]? = some y → y.ky ≠ key) : ∀ x ∈ l, x.ky ≠ key := by
  obtain ⟨c1, c2⟩ := cut_parts c
  intro x hx q
  rw [← List.take_append_drop a l] at hx hs
  rcases List.mem_append.1 hx with hx | hx
  · have := c1 x hx; rw [q] at this; exact kL_irr this
  · cases hd : l.drop a with
    | nil => rw [hd] at hx; cases hx
    | cons y r =>
      have hy : l[a]? = some y := by
        have := congrArg (fun z => z[0]?) hd
        simpa using this
      rw [hd] at hx hs
      rcases List.mem_cons.1 hx with rfl | hx
      · exact hn _ hy q
      · have h1 := (srt_cons.1 (srt_app.1 hs).2.1).1 x hx
        rw [q] at h1
        exact c2 y (by rw [hd]; exact List.mem_cons_self ..) h1
theorem get_none {l : List It} {key : List UInt8} (h : ∀ x ∈ l, x.ky ≠ key) : getF l key = none := List.find?_eq_none.2 fun x hx => by simpa using h x hx
def Inv (L : List (List It)) : Prop := (∀ g ∈ L, g ≠ [] ∧ g.length ≤ 8) ∧ SrtI L.flatten
def fk (g : List It) : List UInt8 := match g with | [] => [] | x :: _ => x.ky
def IsHome (key : List UInt8) (L : List (List It)) (s : Nat) : Prop := s ≤ L.length ∧ (∀ k g, k < s → L[k]? = some g → ¬ kL key (fk g)) ∧ ∀ k g, s ≤ k → L[k]? = some g → kL key (fk g)
def home (key : List UInt8) (L : List (List It)) : Nat := (L.takeWhile fun g => !decide (kL key (fk g))).length - 1
theorem home_eq {key : List UInt8} {L : List (List It)} {s : Nat} (h : IsHome key L s) : s - 1 = home key L := by
  unfold home
  congr 1
  have e : L = L.take s ++ L.drop s := (List.take_append_drop s L).symm
  have hall : ∀ g ∈ L.take s, (fun g => !decide (kL key (fk g))) g = true := by
    intro g hg
    obtain ⟨k, hk, rfl⟩ := List.getElem_of_mem hg
    have hk2 : k < s ∧ k < L.length := by rw [List.length_take] at hk; omega
    have := h.2.1 k L[k] hk2.1 (List.getElem?_eq_getElem hk2.2)
    rw [List.getElem_take]; simpa using this
  conv => rhs; rw [e]
  rw [List.takeWhile_append_of_pos hall]
  have : (L.drop s).takeWhile (fun g => !decide (kL key (fk g))) = [] := by
    cases hd : L.drop s with
    | nil => rfl
    | cons g r =>
      have hg : L[s]? = some g := by
        have := congrArg (fun z => z[0]?) hd
        simpa using this
      have := h.2.2 s g (Nat.le_refl _) hg
      simp [List.takeWhile_cons, this]
  rw [this, List.append_nil, List.length_take, Nat.min_eq_left h.1]
theorem fk_mem {g : List It} (h : g ≠ []) : ∃ x ∈ g, x.ky = fk g := by
  cases g with
  | nil => exact absurd rfl h
  | cons x r => exact ⟨x, List.mem_cons_self .., rfl⟩
theorem fk_le {g : List It} (hs : SrtI g) {x : It} (hx : x ∈ g) : ¬ kL x.ky (fk g) := by
  cases g with
  | nil => cases hx
  | cons y r =>
    rcases List.mem_cons.1 hx with rfl | hx
    · exact kL_irr
    · exact kL_asym ((srt_cons.1 hs).1 x hx)
theorem inv_page {L : List (List It)} (h : Inv L) {g : List It} (hg : g ∈ L) : SrtI g := by
  obtain ⟨A, B, rfl⟩ := List.append_of_mem hg
  have := h.2
  rw [List.flatten_append, List.flatten_cons] at this
  exact (srt_app.1 (srt_app.1 this).2.1).1
theorem fk_rise {L : List (List It)} (h : Inv L) {i j : Nat} {g g2 : List It} (hij : i < j) (hi : L[i]? = some g) (hj : L[j]? = some g2) : kL (fk g) (fk g2) := by
  have e : L = L.take i ++ g :: L.drop (i + 1) := by
    rw [← (List.getElem?_eq_some_iff.1 hi).2, List.getElem_cons_drop, List.take_append_drop]
  have hm : g2 ∈ L.drop (i + 1) := by
    have : (L.drop (i + 1))[j - (i + 1)]? = some g2 := by rw [List.getElem?_drop, ← hj]; congr 1; omega
    exact List.mem_of_getElem? this
  have hs := h.2
  rw [e, List.flatten_append, List.flatten_cons] at hs
  have h3 := (srt_app.1 (srt_app.1 hs).2.1).2.2
  obtain ⟨x, hx, ex⟩ := fk_mem (h.1 g (List.mem_of_getElem? hi)).1
  obtain ⟨y, hy, ey⟩ := fk_mem (h.1 g2 (List.mem_of_getElem? hj)).1
  rw [← ex, ← ey]
  exact h3 x hx y (List.mem_flatten.2 ⟨g2, hm, hy⟩)
theorem mono_cut {α : Type} (P : α → Prop) : ∀ (l : List α), (∀ (i j : Nat) (x y : α), i < j → l[i]? = some x → l[j]? = some y → P x → P y) → ∃ s, s ≤ l.length ∧ (∀ (k : Nat) (x : α), k < s → l[k]? = some x → ¬ P x) ∧ ∀ (k : Nat) (x : α), s ≤ k → l[k]? = some x → P x := by
  intro l
  induction l with
  | nil => intro _; exact ⟨0, Nat.le_refl _, fun k x h => by omega, fun k x _ h => by simp at h⟩
  | cons g r ih =>
    intro hm
    by_cases c : P g
    · refine ⟨0, Nat.zero_le _, fun k x h => by omega, fun k x _ h => ?_⟩
      cases k with
      | zero => simp at h; subst h; exact c
      | succ k => exact hm 0 (k + 1) g x (by omega) rfl h c
    · obtain ⟨s, h1, h2, h3⟩ := ih (fun i j x y hij hx hy => hm (i + 1) (j + 1) x y (by omega) (by simpa using hx) (by simpa using hy))
      refine ⟨s + 1, by simpa using h1, fun k x h hx => ?_, fun k x h hx => ?_⟩
      · cases k with
        | zero => simp at hx; subst hx; exact c
        | succ k => exact h2 k x (by omega) (by simpa using hx)
      · cases k with
        | zero => omega
        | succ k => exact h3 k x (by omega) (by simpa using hx)
theorem home_ex {L : List (List It)} (h : Inv L) (key : List UInt8) : ∃ s, IsHome key L s :=
  mono_cut (fun g => kL key (fk g)) L fun i j x y hij hx hy hp => kL_tr hp (fk_rise h hij hx hy)
theorem srt_get {l : List It} (h : SrtI l) {i j : Nat} {x y : It} (hij : i < j) (hx : l[i]? = some x) (hy : l[j]? = some y) : kL x.ky y.ky := by
  obtain ⟨hi, rfl⟩ := List.getElem?_eq_some_iff.1 hx
  obtain ⟨hj, rfl⟩ := List.getElem?_eq_some_iff.1 hy
  exact List.pairwise_iff_getElem.1 h i j hi hj hij
theorem home_split {L : List (List It)} (h : Inv L) (hne : L ≠ []) (key : List UInt8) : ∃ A g B, L = A ++ g :: B ∧ A.length = home key L ∧ (∀ x ∈ A.flatten, kL x.ky key) ∧ (∀ x ∈ B.flatten, kL key x.ky) := by
  obtain ⟨s, hs⟩ := home_ex h key
  have hh := home_eq hs
  have hl : 0 < L.length := List.length_pos_iff.2 hne
  have hs1 := hs.1
  have hlt : s - 1 < L.length := by omega
  have e : L = L.take (s - 1) ++ L[s - 1] :: L.drop (s - 1 + 1) := by rw [List.getElem_cons_drop, List.take_append_drop]
  have hsrt := h.2
  rw [e, List.flatten_append, List.flatten_cons] at hsrt
  refine ⟨L.take (s - 1), L[s - 1], L.drop (s - 1 + 1), e, by rw [List.length_take, hh]; omega, fun x hx => ?_, fun x hx => ?_⟩
  · have h1 : 1 ≤ s := by
      rcases Nat.eq_zero_or_pos s with q | q
      · subst q; simp at hx
      · exact q
    obtain ⟨y, hy, ey⟩ := fk_mem (h.1 L[s - 1] (List.getElem_mem hlt)).1
    have h2 := (srt_app.1 hsrt).2.2 x hx y (List.mem_append_left _ hy)
    rw [ey] at h2
    exact kL_lt_le h2 (hs.2.1 (s - 1) _ (by omega) (List.getElem?_eq_getElem hlt))
  · obtain ⟨g, hg, hxg⟩ := List.mem_flatten.1 hx
    obtain ⟨k, hk, rfl⟩ := List.getElem_of_mem hg
    rw [List.length_drop] at hk
    rw [List.getElem_drop] at hxg
    have h2 := hs.2.2 (s - 1 + 1 + k) _ (by omega) (List.getElem?_eq_getElem (by omega))
    exact kL_lt_le h2 (fk_le (inv_page h (List.getElem_mem _)) hxg)
def putL (L : List (List It)) (it : It) : List (List It) :=
  if L = [] then [[it]] else
    if (putF (L.getD (home it.ky L) []) it).length ≤ 8 then L.set (home it.ky L) (putF (L.getD (home it.ky L) []) it)
    else L.take (home it.ky L) ++ (putF (L.getD (home it.ky L) []) it).take 5 :: (putF (L.getD (home it.ky L) []) it).drop 5 :: L.drop (home it.ky L + 1)
theorem filter_lt_A {A : List It} {key : List UInt8} (h : ∀ x ∈ A, kL x.ky key) : A.filter (fun x => decide (kL x.ky key)) = A ∧ A.filter (fun x => decide (kL key x.ky)) = [] :=
  ⟨filter_all fun x hx => decide_eq_true (h x hx), filter_none fun x hx => decide_eq_false (kL_asym (h x hx))⟩
theorem filter_gt_B {B : List It} {key : List UInt8} (h : ∀ x ∈ B, kL key x.ky) : B.filter (fun x => decide (kL x.ky key)) = [] ∧ B.filter (fun x => decide (kL key x.ky)) = B :=
  ⟨filter_none fun x hx => decide_eq_false (kL_asym (h x hx)), filter_all fun x hx => decide_eq_true (h x hx)⟩
theorem put_split {A g B : List It} {it : It} (hA : ∀ x ∈ A, kL x.ky it.ky) (hB : ∀ x ∈ B, kL it.ky x.ky) : putF (A ++ (g ++ B)) it = A ++ (putF g it ++ B) := by
  unfold putF
  simp only [List.filter_append]
  rw [(filter_lt_A hA).1, (filter_lt_A hA).2, (filter_gt_B hB).1, (filter_gt_B hB).2]
  simp
theorem getD_mid {α : Type} {A B : List α} {g d : α} {n : Nat} (h : A.length = n) : (A ++ g :: B).getD n d = g := by
  subst h; simp
theorem set_mid {α : Type} {A B : List α} {g x : α} {n : Nat} (h : A.length = n) : (A ++ g :: B).set n x = A ++ x :: B := by
  subst h; simp
theorem take_mid {α : Type} {A B : List α} {g : α} {n : Nat} (h : A.length = n) : (A ++ g :: B).take n = A ∧ (A ++ g :: B).drop (n + 1) = B := by
  subst h
  refine ⟨List.take_left, ?_⟩
  rw [← List.drop_drop, List.drop_left]; rfl
theorem putF_len {g : List It} {it : It} (hs : SrtI g) : 1 ≤ (putF g it).length ∧ (putF g it).length ≤ g.length + 1 := by
  have h1 : (g.filter (fun x => decide (kL x.ky it.ky))).length + (g.filter (fun x => decide (kL it.ky x.ky))).length ≤ g.length := by
    clear hs
    induction g with
    | nil => simp
    | cons x g ih =>
      simp only [List.filter_cons]
      by_cases c1 : kL x.ky it.ky
      · rw [if_pos (by simpa using c1), if_neg (by simpa using kL_asym c1)]; simp only [List.length_cons]; omega
      · rw [if_neg (by simpa using c1)]
        split <;> simp only [List.length_cons] <;> omega
  unfold putF
  simp only [List.length_append, List.length_cons]; omega
theorem srt_filter {l : List It} (h : SrtI l) (p : It → Bool) : SrtI (l.filter p) := List.Pairwise.sublist List.filter_sublist h
theorem srt_put {F : List It} {it : It} (h : SrtI F) : SrtI (putF F it) := by
  unfold putF
  refine srt_app.2 ⟨srt_filter h _, srt_cons.2 ⟨fun y hy => of_decide_eq_true (List.mem_filter.1 hy).2, srt_filter h _⟩, fun x hx y hy => ?_⟩
  have hx2 : kL x.ky it.ky := of_decide_eq_true (List.mem_filter.1 hx).2
  rcases List.mem_cons.1 hy with rfl | hy
  · exact hx2
  · exact kL_tr hx2 (of_decide_eq_true (List.mem_filter.1 hy).2)
theorem flat_put {L : List (List It)} {it : It} (h : Inv L) : (putL L it).flatten = putF L.flatten it ∧ Inv (putL L it) := by
  by_cases hne : L = []
  · subst hne
    unfold putL; rw [if_pos rfl]
    exact ⟨rfl, fun g hg => by simp at hg; subst hg; simp, by simp [SrtI]⟩
  · obtain ⟨A, g, B, e, hA, hA2, hB2⟩ := home_split h hne it.ky
    have hg : g ∈ L := by rw [e]; simp
    have hgs := inv_page h hg
    have hl := putF_len (it := it) hgs
    have hg8 := (h.1 g hg).2
    have hfl : (putL L it).flatten = A.flatten ++ (putF g it ++ B.flatten) ∧ ∀ z ∈ putL L it, z ∈ A ∨ z ∈ B ∨ (z ≠ [] ∧ z.length ≤ 8) := by
      unfold putL; rw [if_neg hne]
      generalize home it.ky L = n at hA
      rw [show L.getD n [] = g by rw [e]; exact getD_mid hA]
      by_cases c : (putF g it).length ≤ 8
      · rw [if_pos c, e, set_mid hA]
        refine ⟨by simp, fun z hz => ?_⟩
        rcases List.mem_append.1 hz with q | q
        · exact .inl q
        · rcases List.mem_cons.1 q with rfl | q
          · exact .inr (.inr ⟨fun q => by rw [q] at hl; simp at hl, c⟩)
          · exact .inr (.inl q)
      · rw [if_neg c, e, (take_mid hA).1, (take_mid hA).2]
        refine ⟨by simp only [List.flatten_append, List.flatten_cons]; rw [← List.append_assoc ((putF g it).take 5), List.take_append_drop], fun z hz => ?_⟩
        rcases List.mem_append.1 hz with q | q
        · exact .inl q
        · rcases List.mem_cons.1 q with rfl | q
          · refine .inr (.inr ⟨fun q => ?_, by rw [List.length_take]; omega⟩)
            have := congrArg List.length q; simp only [List.length_take, List.length_nil] at this; omega
          · rcases List.mem_cons.1 q with rfl | q
            · refine .inr (.inr ⟨fun q => ?_, by rw [List.length_drop]; omega⟩)
              have := congrArg List.length q; simp only [List.length_drop, List.length_nil] at this; omega
            · exact .inr (.inl q)
    have hF : L.flatten = A.flatten ++ (g ++ B.flatten) := by rw [e]; simp
    have h1 : (putL L it).flatten = putF L.flatten it := by rw [hfl.1, hF, put_split hA2 hB2]
    refine ⟨h1, fun z hz => ?_, by rw [h1]; exact srt_put h.2⟩
    rcases hfl.2 z hz with q | q | q
    · exact h.1 z (by rw [e]; exact List.mem_append_left _ q)
    · exact h.1 z (by rw [e]; exact List.mem_append_right _ (List.mem_cons_of_mem _ q))
    · exact q
theorem inv_nil : Inv [] := ⟨fun g hg => absurd hg (by simp), List.Pairwise.nil⟩
theorem get_split {L : List (List It)} {A B : List (List It)} {g : List It} {key : List UInt8} (e : L = A ++ g :: B) (hA : ∀ x ∈ A.flatten, kL x.ky key) (hB : ∀ x ∈ B.flatten, kL key x.ky) : getF L.flatten key = getF g key := by
  have n1 : ∀ x ∈ A.flatten, x.ky ≠ key := fun x hx q => by have := hA x hx; rw [q] at this; exact kL_irr this
  have n2 : ∀ x ∈ B.flatten, x.ky ≠ key := fun x hx q => by have := hB x hx; rw [q] at this; exact kL_irr this
  unfold getF
  rw [e, List.flatten_append, List.flatten_cons, List.find?_append, List.find?_append]
  have q1 : A.flatten.find? (fun x => decide (x.ky = key)) = none := get_none n1
  have q2 : B.flatten.find? (fun x => decide (x.ky = key)) = none := get_none n2
  rw [q1, q2]; simp
end Go.Proofs.Ytkfjlbdedjoojaa.Wt
