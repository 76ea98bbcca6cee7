/- The law 'SessReads' returns true for all arguments: what its proof stands on, part 5. -/
import Derived.Test.YtomaijljeacpjaaZSessReads4
import Derived.Test.YtomaijljeacpjaaProg
import Derived.KernelRfl
namespace Go.Proofs.Ytomaijljeacpjaa.IrAll
open Go Go.Proofs.Ytomaijljeacpjaa.Am
open Go.Operand renaming tmp → t, const → c
open Go.Value renaming int → i, string → g, bool → b
open Go.IntKind renaming i64 → I, u64 → U, u8 → B
open Option renaming some → S, none → N
open Go.Proofs.Ytomaijljeacpjaa.Am.Step renaming op → o, call → y
open Go.Proofs.Ytomaijljeacpjaa.Am.IOp renaming mov → m
open Go.Proofs.Ytomaijljeacpjaa.Am.IC renaming seq → q, cond → k, run → r, skip → s
def hi7 : List Hint := [.keep [0], .keep [0, 9], .keep [0], .keep [0, 3, 4], .keep [0, 3, 4, 5, 6], .keep [0, 3, 4, 5, 30], .keep [2], .keep [2]]
def ir7 : IFun := ⟨1, [.tmp 2], (q (r [o (S 2) N (m (c (b false)))] [0]) (q (q (r [o (S 7) N (m (t 0)), o (S 8) N (.lenS (t 7)), o (S 9) N (.bin .gtr (t 8) (c (i I 4000)))] [0, 9]) (k (t 9) (r [o (S 10) N (m (t 0)), o (S 11) N (.slS (t 10) N (some (c (i I 4000)))), o (S 0) N (m (t 11))] [0]) s)) (q (r [o (S 13) N (m (t 0)), y (S 14) N (.fn 18) [(t 13)], o (S 12) N (m (t 14)), o (S 15) N (.ext (t 12) 0), o (S 16) N (.ext (t 12) 1), o (S 3) N (m (t 15)), o (S 4) N (m (t 16))] [0, 3, 4]) (q (r [o (S 18) N (m (t 0)), y (S 19) N (.fn 25) [(t 18)], o (S 17) N (m (t 19)), o (S 20) N (.ext (t 17) 0), o (S 21) N (.ext (t 17) 1), o (S 5) N (.new [(.slice none 0 0), (i U 0)]), o N N (.st 2 (t 5) (t 20)), o (S 6) N (m (t 21))] [0, 3, 4, 5, 6]) (q (q (r [o (S 22) N (m (t 4)), o (S 23) N (m (t 6)), o (S 24) N (.eqq true (.one 0) (t 22) (t 23)), o (S 25) N (m (t 24)), o (S 26) (S (25, false)) (m (t 4)), o (S 27) (S (25, false)) (m (t 3)), o (S 28) (S (25, false)) (.eqq true .nilP (t 27) (c (.pointer none))), o (S 29) (S (25, false)) (.eqq true (.one 0) (t 26) (t 28)), o (S 30) N (.pick (t 25) (c (b true)) (t 29))] [0, 3, 4, 5, 30]) (k (t 30) (q (r [o (S 2) N (m (c (b false)))] [2]) .ret) s)) (q (r [o (S 31) N (m (t 4)), o (S 32) N (.un .not (t 31)), o (S 33) N (m (t 32)), o (S 34) (S (33, false)) (m (t 3)), y (S 35) (S (33, false)) (.fn 19) [(t 34)], o (S 36) (S (33, false)) (m (t 0)), o (S 37) (S (33, false)) (.bin .eql (t 35) (t 36)), o (S 38) (S (33, false)) (m (t 37)), o (S 39) (S (38, true)) (.ldN 2 (t 5)), y (S 40) (S (38, true)) (.fn 24) [(t 39)], o (S 41) (S (38, true)) (m (t 0)), o (S 42) (S (38, true)) (.bin .eql (t 40) (t 41)), o (S 43) (S (33, false)) (.pick (t 38) (t 42) (c (b false))), o (S 44) N (.pick (t 33) (c (b true)) (t 43)), o (S 45) N (m (t 44)), y (S 46) (S (45, true)) (.fn 10) [], o (S 47) N (.pick (t 45) (t 46) (c (b false))), o (S 2) N (m (t 47))] [2]) .ret))))))⟩
theorem ok7 : compF Try.prog 7 hi7 = some ir7 := by kernel_rfl
def hi10 : List Hint := [.keep [], .keep [1], .keep [1, 2, 3], .keep [1, 2, 3, 5, 6], .keep [1, 2, 3, 5, 6], .keep [1, 2, 3, 5, 6, 7, 8, 9], .keep [1, 2, 3, 5, 6, 7, 8, 9], .keep [1, 2, 3, 5, 6, 7, 8, 9], .keep [0]]
def ir10 : IFun := ⟨0, [.tmp 0], (q (r [o (S 0) N (m (c (b false)))] []) (q (r [y (S 10) N (.fn 11) [], o (S 1) N (m (t 10))] [1]) (q (r [o (S 12) N (m (t 1)), y (S 13) N (.fn 12) [(t 12), (c (i U 2))], o (S 11) N (m (t 13)), o (S 14) N (.ext (t 11) 0), o (S 15) N (.ext (t 11) 1), o (S 2) N (m (t 14)), o (S 3) N (m (t 15))] [1, 2, 3]) (q (r [o (S 17) N (m (t 1)), o (S 18) N (m (t 2)), y (S 19) N (.fn 13) [(t 17), (t 18), (c (i U 1))], o (S 16) N (m (t 19)), o (S 20) N (.ext (t 16) 0), o (S 21) N (.ext (t 16) 1), o (S 22) N (.ext (t 16) 2), o (S 4) N (.new [(i B 0), (i U 0), (g ⟨#[]⟩), (.slice none 0 0)]), o N N (.st 4 (t 4) (t 20)), o (S 5) N (m (t 21)), o (S 6) N (m (t 22))] [1, 2, 3, 5, 6]) (q (r [o (S 23) N (m (t 1)), o (S 24) N (m (t 2)), o (S 25) N (.build [(i B 0), (i U 0), (g ⟨#[]⟩), (.slice none 0 0)] [(1, 1, (c (i U 7)))]), y (S 26) N (.fn 15) [(t 23), (t 24), (c (i U 1)), (t 25)]] [1, 2, 3, 5, 6]) (q (r [o (S 28) N (m (t 1)), o (S 29) N (m (t 2)), y (S 30) N (.fn 13) [(t 28), (t 29), (c (i U 1))], o (S 27) N (m (t 30)), o (S 31) N (.ext (t 27) 0), o (S 32) N (.ext (t 27) 1), o (S 33) N (.ext (t 27) 2), o (S 7) N (.new [(i B 0), (i U 0), (g ⟨#[]⟩), (.slice none 0 0)]), o N N (.st 4 (t 7) (t 31)), o (S 8) N (m (t 32)), o (S 9) N (m (t 33))] [1, 2, 3, 5, 6, 7, 8, 9]) (q (r [o (S 34) N (m (t 1)), y (S 35) N (.fn 16) [(t 34)]] [1, 2, 3, 5, 6, 7, 8, 9]) (q (r [o (S 36) N (m (t 1)), y (S 37) N (.fn 16) [(t 36)]] [1, 2, 3, 5, 6, 7, 8, 9]) (q (r [o (S 38) N (m (t 2)), o (S 39) N (.bin .eql (t 38) (c (i U 1))), o (S 40) N (m (t 39)), o (S 41) (S (40, true)) (m (t 3)), o (S 42) (S (40, true)) (.bin .eql (t 41) (c (i B 0))), o (S 43) N (.pick (t 40) (t 42) (c (b false))), o (S 44) N (m (t 43)), o (S 45) (S (44, true)) (m (t 5)), o (S 46) (S (44, true)) (.un .not (t 45)), o (S 47) N (.pick (t 44) (t 46) (c (b false))), o (S 48) N (m (t 47)), o (S 49) (S (48, true)) (m (t 6)), o (S 50) (S (48, true)) (.bin .eql (t 49) (c (i B 0))), o (S 51) N (.pick (t 48) (t 50) (c (b false))), o (S 52) N (m (t 51)), o (S 53) (S (52, true)) (.fa 1 (t 7)), o (S 54) (S (52, true)) (.ld1 (t 53)), o (S 55) (S (52, true)) (.bin .eql (t 54) (c (i U 7))), o (S 56) N (.pick (t 52) (t 55) (c (b false))), o (S 57) N (m (t 56)), o (S 58) (S (57, true)) (m (t 8)), o (S 59) N (.pick (t 57) (t 58) (c (b false))), o (S 60) N (m (t 59)), o (S 61) (S (60, true)) (m (t 9)), o (S 62) (S (60, true)) (.bin .eql (t 61) (c (i B 0))), o (S 63) N (.pick (t 60) (t 62) (c (b false))), o (S 64) N (m (t 63)), o (S 65) (S (64, true)) (m (t 1)), y (S 66) (S (64, true)) (.fn 17) [(t 65)], o (S 67) (S (64, true)) (.bin .eql (t 66) (c (i I 0))), o (S 68) N (.pick (t 64) (t 67) (c (b false))), o (S 0) N (m (t 68))] [0]) .ret)))))))))⟩
theorem ok10 : compF Try.prog 10 hi10 = some ir10 := by kernel_rfl
def hi11 : List Hint := [.keep [], .keep [0]]
def ir11 : IFun := ⟨0, [.tmp 0], (q (r [o (S 0) N (m (c (.pointer none)))] []) (q (r [o (S 1) N (.build [(.slice none 0 0), (i U 0)] []), o (S 2) N (.box (t 1)), o (S 0) N (m (t 2))] [0]) .ret))⟩
theorem ok11 : compF Try.prog 11 hi11 = some ir11 := by kernel_rfl
def hi12 : List Hint := [.keep [0, 1], .keep [0, 1, 6], .keep [4, 5], .keep [0, 1, 9], .keep [4, 5], .keep [0, 1, 12], .keep [4, 5], .keep [0, 1], .draw [.op 0, .op 1, .op 2, .op 3, .op 4, .op 5, .op 6, .op 7, .op 8, .op 9, .op 10, .op 11, .opA 12, .op 13, .op 14, .op 15, .op 16] [0], .keep [4, 5]]
def ir12 : IFun := ⟨2, [.tmp 4, .tmp 5], (q (r [o (S 4) N (m (c (i U 0))), o (S 5) N (m (c (i B 0)))] [0, 1]) (q (.block 0 (q (r [o (S 7) N (m (t 0)), o (S 8) N (.eqq false .nilP (t 7) (c (.pointer none))), o (S 6) N (m (t 8))] [0, 1, 6]) (k (t 6) (q (r [o (S 4) N (m (c (i U 0))), o (S 5) N (m (c (i B 9)))] [4, 5]) .ret) (q (r [o (S 10) N (m (t 1)), o (S 11) N (.bin .eql (t 10) (c (i U 0))), o (S 9) N (m (t 11))] [0, 1, 9]) (k (t 9) (q (r [o (S 4) N (m (c (i U 0))), o (S 5) N (m (c (i B 11)))] [4, 5]) .ret) (q (r [o (S 13) N (m (t 0)), o (S 14) N (.nck (t 13)), o (S 15) N (.fa 0 (t 14)), o (S 16) N (.ld1 (t 15)), o (S 17) N (.lenV (t 16)), o (S 18) N (.bin .eql (t 17) (c (i I 4))), o (S 12) N (m (t 18))] [0, 1, 12]) (k (t 12) (q (r [o (S 4) N (m (c (i U 0))), o (S 5) N (m (c (i B 9)))] [4, 5]) .ret) s))))))) (q (r [o (S 19) N (m (t 0)), o (S 20) N (.nck (t 19)), o (S 21) N (.fa 1 (t 20)), o (S 22) N (.ld1 (t 21)), o (S 23) N (.bin .add (t 22) (c (i U 1))), o (S 24) N (.nck (t 19)), o (S 25) N (.fa 1 (t 24)), o N N (.st 1 (t 25) (t 23))] [0, 1]) (q (.draw 17 [o (S 26) N (m (t 0)), o (S 27) N (m (t 0)), o (S 28) N (.nck (t 27)), o (S 29) N (.fa 0 (t 28)), o (S 30) N (.ld1 (t 29)), o (S 31) N (m (t 0)), o (S 32) N (.nck (t 31)), o (S 33) N (.fa 1 (t 32)), o (S 34) N (.ld1 (t 33)), o (S 35) N (m (t 1)), o (S 36) N (m (t 1)), o (S 37) N (.build [(i U 0), (i U 0), (i U 0), (i U 0), (g ⟨#[]⟩)] [(0, 1, (t 34)), (1, 1, (t 35)), (2, 1, (t 36))]), .opA (some 38) N (.bsl 5 1 [(i U 0), (i U 0), (i U 0), (i U 0), (g ⟨#[]⟩)] [(0, 5, (t 37))]) 12, o (S 39) N (.app 5 48 (t 30) (t 38)), o (S 40) N (.nck (t 26)), o (S 41) N (.fa 0 (t 40)), o N N (.st 1 (t 41) (t 39))] [0]) (q (r [o (S 42) N (m (t 0)), o (S 43) N (.nck (t 42)), o (S 44) N (.fa 1 (t 43)), o (S 45) N (.ld1 (t 44)), o (S 4) N (m (t 45)), o (S 5) N (m (c (i B 0)))] [4, 5]) .ret)))))⟩
theorem ok12 : compF Try.prog 12 hi12 = some ir12 := by kernel_rfl
end Go.Proofs.Ytomaijljeacpjaa.IrAll
namespace Go.Proofs.Ytomaijljeacpjaa.IrAll
open Go Go.Proofs.Ytomaijljeacpjaa.Am
open Go.Operand renaming tmp → t, const → c
open Go.Value renaming int → i, string → g, bool → b
open Go.IntKind renaming i64 → I, u64 → U, u8 → B
open Option renaming some → S, none → N
open Go.Proofs.Ytomaijljeacpjaa.Am.Step renaming op → o, call → y
open Go.Proofs.Ytomaijljeacpjaa.Am.IOp renaming mov → m
open Go.Proofs.Ytomaijljeacpjaa.Am.IC renaming seq → q, cond → k, run → r, skip → s
def hi13 : List Hint := [.keep [0, 1, 2, 6], .keep [2, 6, 9], .keep [2, 6, 9, 16], .keep [6, 7, 8], .keep [2, 6, 9], .keep [2, 6, 9, 25], .keep [6, 7, 8], .keep [6, 9, 37], .keep [6, 10], .keep [6, 7, 8], .keep [6, 7, 8]]
def ir13 : IFun := ⟨3, [.cell 6 (some 4), .tmp 7, .tmp 8], (q (r [o (S 6) N (.new [(i B 0), (i U 0), (g ⟨#[]⟩), (.slice none 0 0)]), o (S 7) N (m (c (b false))), o (S 8) N (m (c (i B 0)))] [0, 1, 2, 6]) (q (r [o (S 12) N (m (t 0)), o (S 13) N (m (t 1)), y (S 14) N (.fn 29) [(t 12), (t 13)], o (S 9) N (m (t 14))] [2, 6, 9]) (q (q (r [o (S 15) N (m (t 9)), o (S 16) N (.eqq false .nilP (t 15) (c (.pointer none)))] [2, 6, 9, 16]) (k (t 16) (q (r [o (S 17) N (.build [(i B 0), (i U 0), (g ⟨#[]⟩), (.slice none 0 0)] []), o N N (.st 4 (t 6) (t 17)), o (S 7) N (m (c (b false))), o (S 8) N (m (c (i B 5)))] [6, 7, 8]) .ret) s)) (q (r [o (S 18) N (m (t 9)), o (S 19) N (m (t 9)), o (S 20) N (.nck (t 19)), o (S 21) N (.fa 1 (t 20)), o (S 22) N (.ld1 (t 21)), o (S 23) N (.nck (t 18)), o (S 24) N (.fa 2 (t 23)), o N N (.st 1 (t 24) (t 22))] [2, 6, 9]) (q (.block 0 (q (r [o (S 26) N (m (t 2)), o (S 27) N (.bin .eql (t 26) (c (i U 0))), o (S 28) N (m (t 27)), o (S 29) (S (28, false)) (m (t 2)), o (S 30) (S (28, false)) (m (t 9)), o (S 31) (S (28, false)) (.nck (t 30)), o (S 32) (S (28, false)) (.fa 3 (t 31)), o (S 33) (S (28, false)) (.ld1 (t 32)), o (S 34) (S (28, false)) (.bin .lss (t 29) (t 33)), o (S 35) N (.pick (t 28) (c (b true)) (t 34)), o (S 25) N (m (t 35))] [2, 6, 9, 25]) (k (t 25) (q (r [o (S 36) N (.build [(i B 0), (i U 0), (g ⟨#[]⟩), (.slice none 0 0)] []), o N N (.st 4 (t 6) (t 36)), o (S 7) N (m (c (b false))), o (S 8) N (m (c (i B 6)))] [6, 7, 8]) .ret) (q (r [o (S 38) N (m (t 2)), o (S 39) N (m (t 9)), o (S 40) N (.nck (t 39)), o (S 41) N (.fa 3 (t 40)), o (S 42) N (.ld1 (t 41)), o (S 43) N (.bin .eql (t 38) (t 42)), o (S 37) N (m (t 43))] [6, 9, 37]) (k (t 37) (q (r [o (S 45) N (m (t 9)), o (S 46) N (.nck (t 45)), o (S 47) N (.fa 4 (t 46)), o (S 48) N (.ld1 (t 47)), y (S 49) N (.fn 30) [(t 48)], o (S 44) N (m (t 49)), o (S 50) N (.ext (t 44) 0), o (S 51) N (.ext (t 44) 1), o (S 10) N (.new [(i B 0), (i U 0), (g ⟨#[]⟩), (.slice none 0 0)]), o N N (.st 4 (t 10) (t 50)), o (S 11) N (m (t 51))] [6, 10]) (q (r [o (S 52) N (.ldN 4 (t 10)), o N N (.st 4 (t 6) (t 52)), o (S 7) N (m (c (b true))), o (S 8) N (m (c (i B 0)))] [6, 7, 8]) .ret)) s))))) (q (r [o (S 53) N (.build [(i B 0), (i U 0), (g ⟨#[]⟩), (.slice none 0 0)] []), o N N (.st 4 (t 6) (t 53)), o (S 7) N (m (c (b false))), o (S 8) N (m (c (i B 0)))] [6, 7, 8]) .ret))))))⟩
theorem ok13 : compF Try.prog 13 hi13 = some ir13 := by kernel_rfl
def hi14 : List Hint := [.keep [2, 3], .keep [2, 3, 33], .keep [4], .keep [2, 3, 5], .keep [2, 3, 5], .keep [2, 3, 5, 38], .draw [.op 0, .op 1, .op 2, .op 3, .op 4, .op 5, .op 6, .op 7, .op 8, .op 9, .op 10] [2, 3, 5, 51], .keep [4], .keep [2, 3, 5], .keep [4]]
def ir14 : IFun := ⟨2, [.tmp 4], (q (r [o (S 2) N (.box (t 0)), o (S 3) N (.box (t 1)), o (S 4) N (m (c (b false)))] [2, 3]) (q (q (r [o (S 6) N (.fa 0 (t 2)), o (S 7) N (.ld1 (t 6)), o (S 8) N (.fa 0 (t 3)), o (S 9) N (.ld1 (t 8)), o (S 10) N (.bin .neq (t 7) (t 9)), o (S 11) N (m (t 10)), o (S 12) (S (11, false)) (.fa 1 (t 2)), o (S 13) (S (11, false)) (.ld1 (t 12)), o (S 14) (S (11, false)) (.fa 1 (t 3)), o (S 15) (S (11, false)) (.ld1 (t 14)), o (S 16) (S (11, false)) (.bin .neq (t 13) (t 15)), o (S 17) N (.pick (t 11) (c (b true)) (t 16)), o (S 18) N (m (t 17)), o (S 19) (S (18, false)) (.fa 2 (t 2)), o (S 20) (S (18, false)) (.ld1 (t 19)), o (S 21) (S (18, false)) (.fa 2 (t 3)), o (S 22) (S (18, false)) (.ld1 (t 21)), o (S 23) (S (18, false)) (.bin .neq (t 20) (t 22)), o (S 24) N (.pick (t 18) (c (b true)) (t 23)), o (S 25) N (m (t 24)), o (S 26) (S (25, false)) (.fa 3 (t 2)), o (S 27) (S (25, false)) (.ld1 (t 26)), o (S 28) (S (25, false)) (.lenV (t 27)), o (S 29) (S (25, false)) (.fa 3 (t 3)), o (S 30) (S (25, false)) (.ld1 (t 29)), o (S 31) (S (25, false)) (.lenV (t 30)), o (S 32) (S (25, false)) (.bin .neq (t 28) (t 31)), o (S 33) N (.pick (t 25) (c (b true)) (t 32))] [2, 3, 33]) (k (t 33) (q (r [o (S 4) N (m (c (b false)))] [4]) .ret) s)) (q (q (r [o (S 5) N (m (c (i I 0)))] [2, 3, 5]) (.block 0 (.loop [2, 3, 5] (q (q (r [o (S 34) N (m (t 5)), o (S 35) N (.fa 3 (t 2)), o (S 36) N (.ld1 (t 35)), o (S 37) N (.lenV (t 36)), o (S 38) N (.bin .lss (t 34) (t 37))] [2, 3, 5, 38]) (k (t 38) .skip (.exit 0))) (q (.block 1 (q (.draw 11 [o (S 41) N (.fa 3 (t 2)), o (S 42) N (.ld1 (t 41)), o (S 43) N (m (t 5)), o (S 44) N (.iaV 3 (t 42) (t 43)), o (S 45) N (.ldN 3 (t 44)), o (S 46) N (.fa 3 (t 3)), o (S 47) N (.ld1 (t 46)), o (S 48) N (m (t 5)), o (S 49) N (.iaV 3 (t 47) (t 48)), o (S 50) N (.ldN 3 (t 49)), o (S 51) N (.eqq true (.agg [(0, 2), (1, 2), (2, 1)]) (t 45) (t 50))] [2, 3, 5, 51]) (k (t 51) (q (r [o (S 4) N (m (c (b false)))] [4]) .ret) s))) (r [o (S 39) N (m (t 5)), o (S 40) N (.bin .add (t 39) (c (i I 1))), o (S 5) N (m (t 40))] [2, 3, 5])))))) (q (r [o (S 4) N (m (c (b true)))] [4]) .ret))))⟩
theorem ok14 : compF Try.prog 14 hi14 = some ir14 := by kernel_rfl
def hi15 : List Hint := [.keep [0, 1, 2, 7], .keep [2, 7, 8], .keep [2, 7, 8, 21], .keep []]
def ir15 : IFun := ⟨4, [], (q (r [o (S 7) N (.box (t 3))] [0, 1, 2, 7]) (q (r [o (S 9) N (m (t 0)), o (S 10) N (m (t 1)), y (S 11) N (.fn 29) [(t 9), (t 10)], o (S 8) N (m (t 11))] [2, 7, 8]) (q (r [o (S 12) N (m (t 8)), o (S 13) N (.eqq true .nilP (t 12) (c (.pointer none))), o (S 14) N (m (t 13)), o (S 15) (S (14, true)) (m (t 2)), o (S 16) (S (14, true)) (m (t 8)), o (S 17) (S (14, true)) (.nck (t 16)), o (S 18) (S (14, true)) (.fa 3 (t 17)), o (S 19) (S (14, true)) (.ld1 (t 18)), o (S 20) (S (14, true)) (.bin .gtr (t 15) (t 19)), o (S 21) N (.pick (t 14) (t 20) (c (b false)))] [2, 7, 8, 21]) (k (t 21) (r [o (S 22) N (m (t 8)), o (S 23) N (m (t 8)), o (S 24) N (m (t 2)), o (S 25) N (.ldN 4 (t 7)), y (S 26) N (.fn 31) [(t 25)], o (S 27) N (.nck (t 22)), o (S 28) N (.fa 3 (t 27)), o N N (.st 1 (t 28) (t 24)), o (S 29) N (.nck (t 23)), o (S 30) N (.fa 4 (t 29)), o N N (.st 1 (t 30) (t 26))] []) s))))⟩
theorem ok15 : compF Try.prog 15 hi15 = some ir15 := by kernel_rfl
def hi16 : List Hint := [.keep [0, 4], .keep [0, 9, 10], .keep [0, 9, 10], .keep [0, 9, 10, 11], .keep [0, 2, 9, 10], .keep [0, 9, 10], .keep [0, 9, 10], .keep []]
def ir16 : IFun := ⟨1, [], (q (q (r [o (S 3) N (m (t 0)), o (S 4) N (.eqq false .nilP (t 3) (c (.pointer none)))] [0, 4]) (k (t 4) .ret s)) (q (q (r [o (S 5) N (m (t 0)), o (S 6) N (.nck (t 5)), o (S 7) N (.fa 0 (t 6)), o (S 8) N (.ld1 (t 7)), o (S 9) N (.lenV (t 8)), o (S 10) N (m (c (i I 0)))] [0, 9, 10]) (.block 0 (.loop [0, 9, 10] (q (r [o (S 11) N (.bin .lss (t 10) (t 9))] [0, 9, 10, 11]) (q (k (t 11) .skip (.exit 0)) (q (.block 1 (q (r [o (S 12) N (m (t 10)), o (S 2) N (m (t 12))] [0, 2, 9, 10]) (r [o (S 13) N (m (t 0)), o (S 14) N (.nck (t 13)), o (S 15) N (.fa 0 (t 14)), o (S 16) N (.ld1 (t 15)), o (S 17) N (m (t 2)), o (S 18) N (.iaV 5 (t 16) (t 17)), o (S 19) N (.fa 2 (t 18)), o (S 20) N (.ld1 (t 19)), o (S 21) N (.bin .sub (t 20) (c (i U 1))), o (S 22) N (.iaV 5 (t 16) (t 17)), o (S 23) N (.fa 2 (t 22)), o N N (.st 1 (t 23) (t 21))] [0, 9, 10]))) (r [o (S 24) N (.bin .add (t 10) (c (i I 1))), o (S 10) N (m (t 24))] [0, 9, 10]))))))) (r [o (S 25) N (m (t 0)), o (S 26) N (m (t 0)), o (S 27) N (.nck (t 26)), o (S 28) N (.fa 0 (t 27)), o (S 29) N (.ld1 (t 28)), y (S 30) N (.fn 32) [(t 29), (.func 33)], o (S 31) N (.nck (t 25)), o (S 32) N (.fa 0 (t 31)), o N N (.st 1 (t 32) (t 30))] [])))⟩
theorem ok16 : compF Try.prog 16 hi16 = some ir16 := by kernel_rfl
def hi17 : List Hint := [.keep [0], .keep [0, 4], .keep [2], .keep [2]]
def ir17 : IFun := ⟨1, [.tmp 2], (q (r [o (S 2) N (m (c (i I 0)))] [0]) (q (q (r [o (S 3) N (m (t 0)), o (S 4) N (.eqq false .nilP (t 3) (c (.pointer none)))] [0, 4]) (k (t 4) (q (r [o (S 2) N (m (c (i I 0)))] [2]) .ret) s)) (q (r [o (S 5) N (m (t 0)), o (S 6) N (.nck (t 5)), o (S 7) N (.fa 0 (t 6)), o (S 8) N (.ld1 (t 7)), o (S 9) N (.lenV (t 8)), o (S 2) N (m (t 9))] [2]) .ret)))⟩
theorem ok17 : compF Try.prog 17 hi17 = some ir17 := by kernel_rfl
def hi18 : List Hint := [.keep [0], .keep [0, 4, 5], .keep [0, 4, 5, 6], .keep [0, 4, 5, 6, 7], .keep [0, 4, 5, 6, 7, 8, 9], .keep [0, 4, 5, 6, 7, 8, 9, 10], .keep [0, 4, 5, 6, 7, 8, 9, 10], .keep [0, 4, 5, 6, 7, 8, 9, 10, 29], .keep [0, 4, 5, 6, 7, 8, 9, 10, 11], .keep [0, 4, 5, 6, 7, 8, 9, 10, 11, 12, 13, 14], .draw [.op 0, .op 1, .op 2, .op 3, .op 4, .op 5, .chk 1, .op 6] [0, 4, 5, 6, 7, 8, 9, 10, 11, 14], .keep [0, 4, 5, 6, 7, 8, 10, 11, 59], .keep [2, 3], .draw [.op 0, .op 1, .op 2, .op 3, .op 4, .op 5, .opA 6, .op 7, .op 8, .op 9, .op 10] [0, 4, 5, 6, 7, 8, 10, 11], .keep [0, 4, 5, 6, 7, 8, 9, 10], .keep [0, 4, 5, 6, 7, 8, 9, 10], .keep [7, 87], .keep [2, 3], .keep [2, 3]]
def ir18 : IFun := ⟨1, [.tmp 2, .tmp 3], (q (r [o (S 2) N (m (c (.pointer none))), o (S 3) N (m (c (b false)))] [0]) (q (r [o (S 15) N (m (t 0)), o (S 4) N (.new [(g ⟨#[]⟩)]), o (S 5) N (.new [(b false)]), o N N (.st 1 (t 4) (t 15)), o N N (.st 1 (t 5) (c (b true)))] [0, 4, 5]) (q (r [o (S 16) N (.mkF (.func 34) [] [(t 4), (t 5)]), o (S 6) N (m (t 16))] [0, 4, 5, 6]) (q (r [o (S 17) N (m (t 6)), y (S 18) N (.val (t 17)) [], o (S 19) N (.build [(.slice none 0 0), (i U 0)] [(1, 1, (t 18))]), o (S 20) N (.box (t 19)), o (S 7) N (m (t 20))] [0, 4, 5, 6, 7]) (q (r [o (S 21) N (m (t 6)), y (S 22) N (.val (t 21)) [], o (S 8) N (m (t 22)), o (S 9) N (m (c (i U 0)))] [0, 4, 5, 6, 7, 8, 9]) (q (q (r [o (S 10) N (m (c (i U 0)))] [0, 4, 5, 6, 7, 8, 9, 10]) (.block 0 (.loop [0, 4, 5, 6, 7, 8, 9, 10] (q (q (r [o (S 23) N (m (t 10)), o (S 24) N (m (t 8)), o (S 25) N (.bin .lss (t 23) (t 24)), o (S 26) N (m (t 25)), o (S 27) (S (26, true)) (m (t 10)), o (S 28) (S (26, true)) (.bin .lss (t 27) (c (i U 4))), o (S 29) N (.pick (t 26) (t 28) (c (b false)))] [0, 4, 5, 6, 7, 8, 9, 10, 29]) (k (t 29) .skip (.exit 0))) (q (.block 1 (q (r [o (S 32) N (m (t 6)), y (S 33) N (.val (t 32)) [], o (S 34) N (m (t 6)), y (S 35) N (.val (t 34)) [], o (S 36) N (m (t 6)), y (S 37) N (.val (t 36)) [], o (S 38) N (m (t 6)), y (S 39) N (.val (t 38)) [], o (S 40) N (.build [(i U 0), (i U 0), (i U 0), (i U 0), (g ⟨#[]⟩)] [(0, 1, (t 33)), (1, 1, (t 35)), (2, 1, (t 37)), (3, 1, (t 39))]), o (S 11) N (.new [(i U 0), (i U 0), (i U 0), (i U 0), (g ⟨#[]⟩)]), o N N (.st 5 (t 11) (t 40))] [0, 4, 5, 6, 7, 8, 9, 10, 11]) (q (r [o (S 42) N (.ld1 (t 4)), y (S 43) N (.fn 36) [(t 42)], o (S 41) N (m (t 43)), o (S 44) N (.ext (t 41) 0), o (S 45) N (.ext (t 41) 1), o (S 46) N (.ext (t 41) 2), o (S 12) N (m (t 44)), o (S 13) N (m (t 45)), o (S 14) N (m (t 46))] [0, 4, 5, 6, 7, 8, 9, 10, 11, 12, 13, 14]) (q (.draw 7 [o (S 47) N (m (t 12)), o (S 48) N (.ld1 (t 4)), o (S 49) N (m (t 13)), o (S 50) N (.slS (t 48) (S (t 49)) none), o (S 51) N (.fa 4 (t 11)), o N N (.st 1 (t 51) (t 47)), .chk 48 none (.ld1 (t 4)), o N N (.st 1 (t 4) (t 50))] [0, 4, 5, 6, 7, 8, 9, 10, 11, 14]) (q (q (r [o (S 52) N (m (t 14)), o (S 53) N (.un .not (t 52)), o (S 54) N (m (t 53)), o (S 55) (S (54, false)) (.ldN 5 (t 11)), o (S 56) (S (54, false)) (m (t 9)), y (S 57) (S (54, false)) (.fn 37) [(t 55), (t 56)], o (S 58) (S (54, false)) (.un .not (t 57)), o (S 59) N (.pick (t 54) (c (b true)) (t 58))] [0, 4, 5, 6, 7, 8, 10, 11, 59]) (k (t 59) (q (r [o (S 2) N (m (c (.pointer none))), o (S 3) N (m (c (b false)))] [2, 3]) .ret) s)) (q (.draw 11 [o (S 60) N (m (t 7)), o (S 61) N (m (t 7)), o (S 62) N (.nck (t 61)), o (S 63) N (.fa 0 (t 62)), o (S 64) N (.ld1 (t 63)), o (S 65) N (.ldN 5 (t 11)), .opA (some 66) N (.bsl 5 1 [(i U 0), (i U 0), (i U 0), (i U 0), (g ⟨#[]⟩)] [(0, 5, (t 65))]) 6, o (S 67) N (.app 5 48 (t 64) (t 66)), o (S 68) N (.nck (t 60)), o (S 69) N (.fa 0 (t 68)), o N N (.st 1 (t 69) (t 67))] [0, 4, 5, 6, 7, 8, 10, 11]) (r [o (S 70) N (.fa 0 (t 11)), o (S 71) N (.ld1 (t 70)), o (S 9) N (m (t 71))] [0, 4, 5, 6, 7, 8, 9, 10]))))))) (r [o (S 30) N (m (t 10)), o (S 31) N (.bin .add (t 30) (c (i U 1))), o (S 10) N (m (t 31))] [0, 4, 5, 6, 7, 8, 9, 10])))))) (q (q (r [o (S 72) N (.ld1 (t 5)), o (S 73) N (.un .not (t 72)), o (S 74) N (m (t 73)), o (S 75) (S (74, false)) (m (t 9)), o (S 76) (S (74, false)) (m (t 7)), o (S 77) (S (74, false)) (.nck (t 76)), o (S 78) (S (74, false)) (.fa 1 (t 77)), o (S 79) (S (74, false)) (.ld1 (t 78)), o (S 80) (S (74, false)) (.bin .gtr (t 75) (t 79)), o (S 81) N (.pick (t 74) (c (b true)) (t 80)), o (S 82) N (m (t 81)), o (S 83) (S (82, false)) (m (t 7)), y (S 84) (S (82, false)) (.fn 19) [(t 83)], o (S 85) (S (82, false)) (m (t 0)), o (S 86) (S (82, false)) (.bin .neq (t 84) (t 85)), o (S 87) N (.pick (t 82) (c (b true)) (t 86))] [7, 87]) (k (t 87) (q (r [o (S 2) N (m (c (.pointer none))), o (S 3) N (m (c (b false)))] [2, 3]) .ret) s)) (q (r [o (S 88) N (m (t 7)), o (S 2) N (m (t 88)), o (S 3) N (m (c (b true)))] [2, 3]) .ret))))))))⟩
theorem ok18 : compF Try.prog 18 hi18 = some ir18 := by kernel_rfl
def hi19 : List Hint := [.keep [0], .keep [0, 8], .keep [2], .draw [.op 0, .op 1, .op 2, .op 3, .op 4, .op 5, .op 6, .op 7, .op 8, .op 9, .opA 10, .op 11, .op 12] [0, 3], .keep [3, 24, 25, 26], .keep [3, 24, 25, 26], .keep [3, 24, 25, 26, 27], .keep [3, 5, 24, 25, 26], .keep [3, 5, 6, 24, 25, 26], .keep [3, 5, 6, 24, 25, 26, 34], .keep [3, 5, 6, 24, 25, 26], .keep [3, 24, 25, 26], .keep [3, 24, 25, 26], .keep [2]]
def ir19 : IFun := ⟨1, [.tmp 2], (q (r [o (S 2) N (m (c (g ⟨#[]⟩)))] [0]) (q (q (r [o (S 7) N (m (t 0)), o (S 8) N (.eqq false .nilP (t 7) (c (.pointer none)))] [0, 8]) (k (t 8) (q (r [o (S 2) N (m (c (g ⟨#[]⟩)))] [2]) .ret) s)) (q (.draw 13 [o (S 9) N (m (t 0)), o (S 10) N (.nck (t 9)), o (S 11) N (.fa 1 (t 10)), o (S 12) N (.ld1 (t 11)), o (S 13) N (m (t 0)), o (S 14) N (.nck (t 13)), o (S 15) N (.fa 0 (t 14)), o (S 16) N (.ld1 (t 15)), o (S 17) N (.lenV (t 16)), o (S 18) N (.cvI .u64 (t 17)), .opA (some 19) N (.bsl 1 2 [(i U 0), (i U 0)] [(0, 1, (t 12)), (1, 1, (t 18))]) 10, y (S 20) N (.fn 38) [(t 19)], o (S 3) N (m (t 20))] [0, 3]) (q (q (r [o (S 21) N (m (t 0)), o (S 22) N (.nck (t 21)), o (S 23) N (.fa 0 (t 22)), o (S 24) N (.ld1 (t 23)), o (S 25) N (.lenV (t 24)), o (S 26) N (m (c (i I 0)))] [3, 24, 25, 26]) (.block 0 (.loop [3, 24, 25, 26] (q (r [o (S 27) N (.bin .lss (t 26) (t 25))] [3, 24, 25, 26, 27]) (q (k (t 27) .skip (.exit 0)) (q (.block 1 (q (r [o (S 28) N (.iaV 5 (t 24) (t 26)), o (S 29) N (.ldN 5 (t 28)), o (S 5) N (.new [(i U 0), (i U 0), (i U 0), (i U 0), (g ⟨#[]⟩)]), o N N (.st 5 (t 5) (t 29))] [3, 5, 24, 25, 26]) (q (r [o (S 30) N (.fa 4 (t 5)), o (S 31) N (.ld1 (t 30)), o (S 6) N (m (t 31))] [3, 5, 6, 24, 25, 26]) (q (q (r [o (S 32) N (.fa 3 (t 5)), o (S 33) N (.ld1 (t 32)), o (S 34) N (.bin .eql (t 33) (c (i U 0)))] [3, 5, 6, 24, 25, 26, 34]) (k (t 34) (r [y (S 35) N (.fn 39) [], o (S 6) N (m (t 35))] [3, 5, 6, 24, 25, 26]) s)) (r [o (S 36) N (m (t 3)), o (S 37) N (.fa 0 (t 5)), o (S 38) N (.ld1 (t 37)), o (S 39) N (.fa 1 (t 5)), o (S 40) N (.ld1 (t 39)), o (S 41) N (.fa 2 (t 5)), o (S 42) N (.ld1 (t 41)), o (S 43) N (.fa 3 (t 5)), o (S 44) N (.ld1 (t 43)), o (S 45) N (.bsl 1 4 [(i U 0), (i U 0), (i U 0), (i U 0)] [(0, 1, (t 38)), (1, 1, (t 40)), (2, 1, (t 42)), (3, 1, (t 44))]), y (S 46) N (.fn 38) [(t 45)], o (S 47) N (m (t 6)), o (S 48) N (.bsl 1 1 [(g ⟨#[]⟩)] [(0, 1, (t 47))]), y (S 49) N (.fn 40) [(t 48)], o (S 50) N (.bin .add (t 46) (t 49)), o (S 51) N (.bin .add (t 36) (t 50)), o (S 3) N (m (t 51))] [3, 24, 25, 26]))))) (r [o (S 52) N (.bin .add (t 26) (c (i I 1))), o (S 26) N (m (t 52))] [3, 24, 25, 26]))))))) (q (r [o (S 53) N (m (t 3)), o (S 2) N (m (t 53))] [2]) .ret)))))⟩
theorem ok19 : compF Try.prog 19 hi19 = some ir19 := by kernel_rfl
def hi24 : List Hint := [.keep [1], .keep [1, 3], .keep [1, 3, 4], .keep [1, 3, 4], .keep [1, 3, 4, 18], .keep [1, 3, 4, 5], .draw [.op 0, .op 1, .op 2, .op 3, .op 4, .op 5, .op 6, .op 7, .op 8, .op 12, .op 13, .opA 9, .op 10, .chk 13, .op 11, .op 14, .opA 15, .op 16, .op 17, .op 18] [1, 3, 4], .keep [1, 3, 4], .keep [2]]
def ir24 : IFun := ⟨1, [.tmp 2], (q (r [o (S 1) N (.box (t 0)), o (S 2) N (m (c (g ⟨#[]⟩)))] [1]) (q (r [o (S 6) N (.fa 1 (t 1)), o (S 7) N (.ld1 (t 6)), o (S 8) N (.fa 0 (t 1)), o (S 9) N (.ld1 (t 8)), o (S 10) N (.lenV (t 9)), o (S 11) N (.cvI .u64 (t 10)), o (S 12) N (.bsl 1 2 [(i U 0), (i U 0)] [(0, 1, (t 7)), (1, 1, (t 11))]), y (S 13) N (.fn 41) [(t 12)], o (S 3) N (m (t 13))] [1, 3]) (q (q (r [o (S 4) N (m (c (i I 0)))] [1, 3, 4]) (.block 0 (.loop [1, 3, 4] (q (q (r [o (S 14) N (m (t 4)), o (S 15) N (.fa 0 (t 1)), o (S 16) N (.ld1 (t 15)), o (S 17) N (.lenV (t 16)), o (S 18) N (.bin .lss (t 14) (t 17))] [1, 3, 4, 18]) (k (t 18) .skip (.exit 0))) (q (.block 1 (q (r [o (S 21) N (.fa 0 (t 1)), o (S 22) N (.ld1 (t 21)), o (S 23) N (m (t 4)), o (S 24) N (.iaV 8 (t 22) (t 23)), o (S 25) N (.ldN 8 (t 24)), o (S 5) N (.new [(i U 0), (i U 0), (i U 0), (i U 0), (i B 0), (i U 0), (g ⟨#[]⟩), (.slice none 0 0)]), o N N (.st 8 (t 5) (t 25))] [1, 3, 4, 5]) (.draw 19 [o (S 26) N (m (t 3)), o (S 27) N (.fa 0 (t 5)), o (S 28) N (.ld1 (t 27)), o (S 29) N (.fa 1 (t 5)), o (S 30) N (.ld1 (t 29)), o (S 31) N (.fa 2 (t 5)), o (S 32) N (.ld1 (t 31)), o (S 33) N (.fa 3 (t 5)), o (S 34) N (.ld1 (t 33)), o (S 38) N (.fa 4 (t 5)), o (S 39) N (.ldN 4 (t 38)), .opA (some 35) N (.bsl 1 4 [(i U 0), (i U 0), (i U 0), (i U 0)] [(0, 1, (t 28)), (1, 1, (t 30)), (2, 1, (t 32)), (3, 1, (t 34))]) 9, y (S 36) N (.fn 41) [(t 35)], .chk 39 none (.ldN 4 (t 38)), o (S 37) N (.bin .add (t 26) (t 36)), y (S 40) N (.fn 28) [(t 39)], .opA (some 41) N (.bsl 1 1 [(g ⟨#[]⟩)] [(0, 1, (t 40))]) 15, y (S 42) N (.fn 42) [(t 41)], o (S 43) N (.bin .add (t 37) (t 42)), o (S 3) N (m (t 43))] [1, 3, 4]))) (r [o (S 19) N (m (t 4)), o (S 20) N (.bin .add (t 19) (c (i I 1))), o (S 4) N (m (t 20))] [1, 3, 4])))))) (q (r [o (S 44) N (m (t 3)), o (S 2) N (m (t 44))] [2]) .ret))))⟩
theorem ok24 : compF Try.prog 24 hi24 = some ir24 := by kernel_rfl
def hi25 : List Hint := [.keep [0, 2], .keep [0, 2, 4, 5], .keep [0, 2, 4, 5, 27], .keep [2, 3], .keep [0, 2, 4, 5, 6], .keep [0, 2, 5, 6, 7], .keep [0, 2, 5, 6, 7, 8], .keep [0, 2, 5, 6, 7, 8], .keep [0, 2, 5, 6, 7, 8, 39], .keep [0, 2, 4, 5, 6, 7, 8], .keep [0, 2, 4, 5, 6, 7, 8, 49], .keep [2, 3], .keep [0, 2, 4, 5, 6, 7, 8, 9, 10, 11], .keep [0, 2, 4, 5, 6, 7, 8, 9, 10, 60], .keep [2, 3], .keep [0, 2, 4, 5, 6, 7, 8, 9], .keep [0, 2, 4, 5, 6, 7, 8, 12, 13], .draw [.op 0, .op 1, .op 2, .op 3, .op 4, .op 5, .op 6, .op 7, .op 8, .op 9, .op 10, .op 11, .op 12, .op 13, .opA 14, .op 15] [0, 2, 5, 6, 7, 8, 12, 13, 14], .draw [.op 0, .op 1, .op 2, .op 3, .op 4, .op 5, .op 6, .op 7, .op 8, .op 9, .op 10, .op 11, .op 12, .op 13, .op 14, .op 15, .op 16, .op 17, .op 18, .op 19, .op 20, .op 21, .op 22, .op 23, .op 24, .op 25, .op 26, .op 27, .op 28, .op 29, .op 30, .op 31, .op 32, .op 33, .op 34, .op 35, .op 36, .op 37, .op 38, .op 39, .op 40, .op 41, .op 42, .op 43, .op 44, .op 45, .op 46, .op 47, .op 48, .op 49, .op 50, .op 51, .op 52] [0, 2, 5, 6, 7, 8, 14, 136], .keep [2, 3], .keep [0, 2, 5, 6, 7, 8], .keep [0, 2, 5, 6, 7, 8], .keep [2, 3]]
def ir25 : IFun := ⟨1, [.cell 2 (some 2), .tmp 3], (q (r [o (S 2) N (.new [(.slice none 0 0), (i U 0)]), o (S 3) N (m (c (b false)))] [0, 2]) (q (r [o (S 16) N (m (t 0)), y (S 17) N (.fn 43) [(t 16), (c (i I 0)), (c (i I 2))], o (S 15) N (m (t 17)), o (S 18) N (.ext (t 15) 0), o (S 19) N (.ext (t 15) 1), o (S 4) N (m (t 18)), o (S 5) N (m (t 19))] [0, 2, 4, 5]) (q (q (r [o (S 20) N (m (t 5)), o (S 21) N (.bin .lss (t 20) (c (i I 0))), o (S 22) N (m (t 21)), o (S 23) (S (22, false)) (m (t 4)), o (S 24) (S (22, false)) (.iaV 1 (t 23) (c (i I 1))), o (S 25) (S (22, false)) (.ld1 (t 24)), o (S 26) (S (22, false)) (.bin .gtr (t 25) (c (i U 4))), o (S 27) N (.pick (t 22) (c (b true)) (t 26))] [0, 2, 4, 5, 27]) (k (t 27) (q (r [o (S 28) N (.build [(.slice none 0 0), (i U 0)] []), o N N (.st 2 (t 2) (t 28)), o (S 3) N (m (c (b false)))] [2, 3]) .ret) s)) (q (r [o (S 29) N (m (t 4)), o (S 30) N (.iaV 1 (t 29) (c (i I 0))), o (S 31) N (.ld1 (t 30)), o (S 32) N (.build [(.slice none 0 0), (i U 0)] [(1, 1, (t 31))]), o (S 6) N (.new [(.slice none 0 0), (i U 0)]), o N N (.st 2 (t 6) (t 32))] [0, 2, 4, 5, 6]) (q (r [o (S 33) N (m (t 4)), o (S 34) N (.iaV 1 (t 33) (c (i I 1))), o (S 35) N (.ld1 (t 34)), o (S 36) N (.cvI .i64 (t 35)), o (S 7) N (m (t 36))] [0, 2, 5, 6, 7]) (q (q (r [o (S 8) N (m (c (i I 0)))] [0, 2, 5, 6, 7, 8]) (.block 0 (.loop [0, 2, 5, 6, 7, 8] (q (q (r [o (S 37) N (m (t 8)), o (S 38) N (m (t 7)), o (S 39) N (.bin .lss (t 37) (t 38))] [0, 2, 5, 6, 7, 8, 39]) (k (t 39) .skip (.exit 0))) (q (.block 1 (q (r [o (S 43) N (m (t 0)), o (S 44) N (m (t 5)), y (S 45) N (.fn 43) [(t 43), (t 44), (c (i I 4))], o (S 42) N (m (t 45)), o (S 46) N (.ext (t 42) 0), o (S 47) N (.ext (t 42) 1), o (S 4) N (m (t 46)), o (S 5) N (m (t 47))] [0, 2, 4, 5, 6, 7, 8]) (q (q (r [o (S 48) N (m (t 5)), o (S 49) N (.bin .lss (t 48) (c (i I 0)))] [0, 2, 4, 5, 6, 7, 8, 49]) (k (t 49) (q (r [o (S 50) N (.build [(.slice none 0 0), (i U 0)] []), o N N (.st 2 (t 2) (t 50)), o (S 3) N (m (c (b false)))] [2, 3]) .ret) s)) (q (r [o (S 52) N (m (t 0)), o (S 53) N (m (t 5)), o (S 54) N (.slS (t 52) (S (t 53)) none), y (S 55) N (.fn 44) [(t 54)], o (S 51) N (m (t 55)), o (S 56) N (.ext (t 51) 0), o (S 57) N (.ext (t 51) 1), o (S 58) N (.ext (t 51) 2), o (S 9) N (m (t 56)), o (S 10) N (m (t 57)), o (S 11) N (m (t 58))] [0, 2, 4, 5, 6, 7, 8, 9, 10, 11]) (q (q (r [o (S 59) N (m (t 11)), o (S 60) N (.un .not (t 59))] [0, 2, 4, 5, 6, 7, 8, 9, 10, 60]) (k (t 60) (q (r [o (S 61) N (.build [(.slice none 0 0), (i U 0)] []), o N N (.st 2 (t 2) (t 61)), o (S 3) N (m (c (b false)))] [2, 3]) .ret) s)) (q (r [o (S 62) N (m (t 5)), o (S 63) N (m (t 10)), o (S 64) N (.bin .add (t 62) (t 63)), o (S 5) N (m (t 64))] [0, 2, 4, 5, 6, 7, 8, 9]) (q (r [o (S 66) N (m (t 9)), y (S 67) N (.fn 45) [(t 66)], o (S 65) N (m (t 67)), o (S 68) N (.ext (t 65) 0), o (S 69) N (.ext (t 65) 1), o (S 12) N (.new [(i B 0), (i U 0), (g ⟨#[]⟩), (.slice none 0 0)]), o N N (.st 4 (t 12) (t 68)), o (S 13) N (m (t 69))] [0, 2, 4, 5, 6, 7, 8, 12, 13]) (q (.draw 16 [o (S 70) N (m (t 4)), o (S 71) N (.iaV 1 (t 70) (c (i I 0))), o (S 72) N (.ld1 (t 71)), o (S 73) N (m (t 4)), o (S 74) N (.iaV 1 (t 73) (c (i I 1))), o (S 75) N (.ld1 (t 74)), o (S 76) N (m (t 4)), o (S 77) N (.iaV 1 (t 76) (c (i I 2))), o (S 78) N (.ld1 (t 77)), o (S 79) N (m (t 4)), o (S 80) N (.iaV 1 (t 79) (c (i I 3))), o (S 81) N (.ld1 (t 80)), o (S 82) N (.ldN 4 (t 12)), o (S 83) N (.build [(i U 0), (i U 0), (i U 0), (i U 0), (i B 0), (i U 0), (g ⟨#[]⟩), (.slice none 0 0)] [(0, 1, (t 72)), (1, 1, (t 75)), (2, 1, (t 78)), (3, 1, (t 81)), (4, 4, (t 82))]), .opA (some 14) N (.new [(i U 0), (i U 0), (i U 0), (i U 0), (i B 0), (i U 0), (g ⟨#[]⟩), (.slice none 0 0)]) 14, o N N (.st 8 (t 14) (t 83))] [0, 2, 5, 6, 7, 8, 12, 13, 14]) (q (q (.draw 53 [o (S 84) N (m (t 13)), o (S 85) N (.un .not (t 84)), o (S 86) N (m (t 85)), o (S 87) (S (86, false)) (.fa 2 (t 14)), o (S 88) (S (86, false)) (.ld1 (t 87)), o (S 89) (S (86, false)) (.bin .lss (t 88) (c (i U 1))), o (S 90) N (.pick (t 86) (c (b true)) (t 89)), o (S 91) N (m (t 90)), o (S 92) (S (91, false)) (.fa 2 (t 14)), o (S 93) (S (91, false)) (.ld1 (t 92)), o (S 94) (S (91, false)) (.fa 1 (t 14)), o (S 95) (S (91, false)) (.ld1 (t 94)), o (S 96) (S (91, false)) (.bin .gtr (t 93) (t 95)), o (S 97) N (.pick (t 91) (c (b true)) (t 96)), o (S 98) N (m (t 97)), o (S 99) (S (98, false)) (.fa 0 (t 14)), o (S 100) (S (98, false)) (.ld1 (t 99)), o (S 101) (S (98, false)) (.bin .lss (t 100) (c (i U 1))), o (S 102) N (.pick (t 98) (c (b true)) (t 101)), o (S 103) N (m (t 102)), o (S 104) (S (103, false)) (.fa 0 (t 14)), o (S 105) (S (103, false)) (.ld1 (t 104)), o (S 106) (S (103, false)) (.fa 1 (t 6)), o (S 107) (S (103, false)) (.ld1 (t 106)), o (S 108) (S (103, false)) (.bin .gtr (t 105) (t 107)), o (S 109) N (.pick (t 103) (c (b true)) (t 108)), o (S 110) N (m (t 109)), o (S 111) (S (110, false)) (m (t 8)), o (S 112) (S (110, false)) (.bin .gtr (t 111) (c (i I 0))), o (S 113) (S (110, false)) (m (t 112)), o (S 114) (S (113, true)) (.fa 0 (t 14)), o (S 115) (S (113, true)) (.ld1 (t 114)), o (S 116) (S (113, true)) (.fa 0 (t 6)), o (S 117) (S (113, true)) (.ld1 (t 116)), o (S 118) (S (113, true)) (m (t 8)), o (S 119) (S (113, true)) (.bin .sub (t 118) (c (i I 1))), o (S 120) (S (113, true)) (.iaV 8 (t 117) (t 119)), o (S 121) (S (113, true)) (.fa 0 (t 120)), o (S 122) (S (113, true)) (.ld1 (t 121)), o (S 123) (S (113, true)) (.bin .leq (t 115) (t 122)), o (S 124) (S (110, false)) (.pick (t 113) (t 123) (c (b false))), o (S 125) N (.pick (t 110) (c (b true)) (t 124)), o (S 126) N (m (t 125)), o (S 127) (S (126, false)) (.fa 3 (t 14)), o (S 128) (S (126, false)) (.ld1 (t 127)), o (S 129) (S (126, false)) (.bin .eql (t 128) (c (i U 0))), o (S 130) (S (126, false)) (m (t 129)), o (S 131) (S (130, true)) (.ldN 4 (t 12)), o (S 132) (S (130, true)) (.build [(i B 0), (i U 0), (g ⟨#[]⟩), (.slice none 0 0)] []), y (S 133) (S (130, true)) (.fn 14) [(t 131), (t 132)], o (S 134) (S (130, true)) (.un .not (t 133)), o (S 135) (S (126, false)) (.pick (t 130) (t 134) (c (b false))), o (S 136) N (.pick (t 126) (c (b true)) (t 135))] [0, 2, 5, 6, 7, 8, 14, 136]) (k (t 136) (q (r [o (S 137) N (.build [(.slice none 0 0), (i U 0)] []), o N N (.st 2 (t 2) (t 137)), o (S 3) N (m (c (b false)))] [2, 3]) .ret) s)) (r [o (S 138) N (.fa 0 (t 6)), o (S 139) N (.ld1 (t 138)), o (S 140) N (.ldN 8 (t 14)), o (S 141) N (.bsl 8 1 [(i U 0), (i U 0), (i U 0), (i U 0), (i B 0), (i U 0), (g ⟨#[]⟩), (.slice none 0 0)] [(0, 8, (t 140))]), o (S 142) N (.app 8 88 (t 139) (t 141)), o (S 143) N (.fa 0 (t 6)), o N N (.st 1 (t 143) (t 142))] [0, 2, 5, 6, 7, 8])))))))))) (r [o (S 40) N (m (t 8)), o (S 41) N (.bin .add (t 40) (c (i I 1))), o (S 8) N (m (t 41))] [0, 2, 5, 6, 7, 8])))))) (q (r [o (S 144) N (.ldN 2 (t 6)), o (S 145) N (m (t 5)), o (S 146) N (m (t 0)), o (S 147) N (.lenS (t 146)), o (S 148) N (.bin .eql (t 145) (t 147)), o N N (.st 2 (t 2) (t 144)), o (S 3) N (m (t 148))] [2, 3]) .ret)))))))⟩
theorem ok25 : compF Try.prog 25 hi25 = some ir25 := by kernel_rfl
def hi28 : List Hint := [.keep [1], .draw [.op 0, .op 1, .op 2, .op 4, .op 5, .op 8, .op 9, .op 12, .op 13, .op 14, .op 15, .op 3, .chk 5, .chk 9, .chk 13, .op 6, .chk 9, .chk 13, .op 7, .op 10, .chk 13, .op 11, .op 16, .op 17, .op 18] [1, 3], .keep [1, 3, 4], .keep [1, 3, 4], .keep [1, 3, 4, 27], .draw [.op 0, .op 1, .op 2, .op 3, .op 4, .op 5, .op 6, .op 9, .op 10, .op 11, .op 12, .op 13, .op 14, .op 17, .op 18, .op 19, .op 20, .op 21, .op 22, .op 7, .chk 10, .chk 14, .chk 18, .chk 22, .op 8, .op 15, .chk 18, .chk 22, .op 16, .op 23, .op 24, .op 25] [1, 3, 4], .keep [1, 3, 4], .keep [2]]
def ir28 : IFun := ⟨1, [.tmp 2], (q (r [o (S 1) N (.box (t 0)), o (S 2) N (m (c (g ⟨#[]⟩)))] [1]) (q (.draw 19 [o (S 5) N (.fa 0 (t 1)), o (S 6) N (.ld1 (t 5)), o (S 7) N (.cvI .i64 (t 6)), o (S 9) N (.fa 1 (t 1)), o (S 10) N (.ld1 (t 9)), o (S 13) N (.fa 2 (t 1)), o (S 14) N (.ld1 (t 13)), o (S 17) N (.fa 3 (t 1)), o (S 18) N (.ld1 (t 17)), o (S 19) N (.lenV (t 18)), o (S 20) N (.cvI .u64 (t 19)), y (S 8) N (.fn 46) [(t 7)], .chk 10 none (.ld1 (t 9)), .chk 14 none (.ld1 (t 13)), .chk 18 none (.ld1 (t 17)), y (S 11) N (.fn 47) [(t 10)], .chk 14 none (.ld1 (t 13)), .chk 18 none (.ld1 (t 17)), o (S 12) N (.bin .add (t 8) (t 11)), y (S 15) N (.fn 48) [(t 14)], .chk 18 none (.ld1 (t 17)), o (S 16) N (.bin .add (t 12) (t 15)), y (S 21) N (.fn 47) [(t 20)], o (S 22) N (.bin .add (t 16) (t 21)), o (S 3) N (m (t 22))] [1, 3]) (q (q (r [o (S 4) N (m (c (i I 0)))] [1, 3, 4]) (.block 0 (.loop [1, 3, 4] (q (q (r [o (S 23) N (m (t 4)), o (S 24) N (.fa 3 (t 1)), o (S 25) N (.ld1 (t 24)), o (S 26) N (.lenV (t 25)), o (S 27) N (.bin .lss (t 23) (t 26))] [1, 3, 4, 27]) (k (t 27) .skip (.exit 0))) (q (.block 1 (.draw 26 [o (S 30) N (m (t 3)), o (S 31) N (.fa 3 (t 1)), o (S 32) N (.ld1 (t 31)), o (S 33) N (m (t 4)), o (S 34) N (.iaV 3 (t 32) (t 33)), o (S 35) N (.fa 0 (t 34)), o (S 36) N (.ld1 (t 35)), o (S 39) N (.fa 3 (t 1)), o (S 40) N (.ld1 (t 39)), o (S 41) N (m (t 4)), o (S 42) N (.iaV 3 (t 40) (t 41)), o (S 43) N (.fa 1 (t 42)), o (S 44) N (.ld1 (t 43)), o (S 47) N (.fa 3 (t 1)), o (S 48) N (.ld1 (t 47)), o (S 49) N (m (t 4)), o (S 50) N (.iaV 3 (t 48) (t 49)), o (S 51) N (.fa 2 (t 50)), o (S 52) N (.ld1 (t 51)), y (S 37) N (.fn 48) [(t 36)], .chk 40 none (.ld1 (t 39)), .chk 44 none (.ld1 (t 43)), .chk 48 none (.ld1 (t 47)), .chk 52 none (.ld1 (t 51)), o (S 38) N (.bin .add (t 30) (t 37)), y (S 45) N (.fn 48) [(t 44)], .chk 48 none (.ld1 (t 47)), .chk 52 none (.ld1 (t 51)), o (S 46) N (.bin .add (t 38) (t 45)), y (S 53) N (.fn 47) [(t 52)], o (S 54) N (.bin .add (t 46) (t 53)), o (S 3) N (m (t 54))] [1, 3, 4])) (r [o (S 28) N (m (t 4)), o (S 29) N (.bin .add (t 28) (c (i I 1))), o (S 4) N (m (t 29))] [1, 3, 4])))))) (q (r [o (S 55) N (m (t 3)), o (S 2) N (m (t 55))] [2]) .ret))))⟩
theorem ok28 : compF Try.prog 28 hi28 = some ir28 := by kernel_rfl
end Go.Proofs.Ytomaijljeacpjaa.IrAll
namespace Go.Proofs.Ytomaijljeacpjaa.IrAll
open Go Go.Proofs.Ytomaijljeacpjaa.Am
open Go.Operand renaming tmp → t, const → c
open Go.Value renaming int → i, string → g, bool → b
open Go.IntKind renaming i64 → I, u64 → U, u8 → B
open Option renaming some → S, none → N
open Go.Proofs.Ytomaijljeacpjaa.Am.Step renaming op → o, call → y
open Go.Proofs.Ytomaijljeacpjaa.Am.IOp renaming mov → m
open Go.Proofs.Ytomaijljeacpjaa.Am.IC renaming seq → q, cond → k, run → r, skip → s
def hi29 : List Hint := [.keep [0, 3], .keep [0, 3, 7], .keep [4], .keep [0, 5], .keep [0, 5, 15], .keep [4], .keep [4]]
def ir29 : IFun := ⟨2, [.tmp 4], (q (r [o (S 3) N (.box (t 1)), o (S 4) N (m (c (.pointer none)))] [0, 3]) (q (q (r [o (S 6) N (m (t 0)), o (S 7) N (.eqq false .nilP (t 6) (c (.pointer none)))] [0, 3, 7]) (k (t 7) (q (r [o (S 4) N (m (c (.pointer none)))] [4]) .ret) s)) (q (r [o (S 8) N (m (t 0)), o (S 9) N (.nck (t 8)), o (S 10) N (.fa 0 (t 9)), o (S 11) N (.ld1 (t 10)), o (S 12) N (.mkF (.func 50) [] [(t 3)]), y (S 13) N (.fn 49) [(t 11), (t 12)], o (S 5) N (m (t 13))] [0, 5]) (q (q (r [o (S 14) N (m (t 5)), o (S 15) N (.bin .lss (t 14) (c (i I 0)))] [0, 5, 15]) (k (t 15) (q (r [o (S 4) N (m (c (.pointer none)))] [4]) .ret) s)) (q (r [o (S 16) N (m (t 0)), o (S 17) N (.nck (t 16)), o (S 18) N (.fa 0 (t 17)), o (S 19) N (.ld1 (t 18)), o (S 20) N (m (t 5)), o (S 21) N (.iaV 5 (t 19) (t 20)), o (S 4) N (m (t 21))] [4]) .ret)))))⟩
theorem ok29 : compF Try.prog 29 hi29 = some ir29 := by kernel_rfl
def hi30 : List Hint := [.keep [0, 2], .keep [0, 2, 4], .keep [2, 4, 5], .keep [2, 4, 5, 6], .keep [2, 4, 5, 6], .keep [2, 4, 5, 6, 22], .keep [2, 4, 5, 6, 7], .keep [2, 4, 5, 6, 7], .keep [2, 4, 5, 6], .keep [2, 4, 5, 6], .keep [2, 4, 36], .keep [2, 3], .keep [2, 3]]
def ir30 : IFun := ⟨1, [.cell 2 (some 4), .tmp 3], (q (r [o (S 2) N (.new [(i B 0), (i U 0), (g ⟨#[]⟩), (.slice none 0 0)]), o (S 3) N (m (c (b false)))] [0, 2]) (q (r [o (S 4) N (.new [(i B 0), (i U 0), (g ⟨#[]⟩), (.slice none 0 0)])] [0, 2, 4]) (q (r [o (S 8) N (m (t 0)), o (S 9) N (.build [(g ⟨#[]⟩), (b false)] [(0, 1, (t 8))]), o (S 10) N (.box (t 9)), o (S 5) N (m (t 10))] [2, 4, 5]) (q (q (r [o (S 11) N (m (t 5)), o (S 12) N (.mkI 100 (t 11)), y (S 13) N (.fn 51) [(t 12), (t 4)], o (S 6) N (m (t 13))] [2, 4, 5, 6]) (.block 0 (.loop [2, 4, 5, 6] (q (q (r [o (S 14) N (m (t 6)), o (S 15) N (.bin .gtr (t 14) (c (i U 0))), o (S 16) N (m (t 15)), o (S 17) (S (16, true)) (m (t 5)), o (S 18) (S (16, true)) (.nck (t 17)), o (S 19) (S (16, true)) (.fa 1 (t 18)), o (S 20) (S (16, true)) (.ld1 (t 19)), o (S 21) (S (16, true)) (.un .not (t 20)), o (S 22) N (.pick (t 16) (t 21) (c (b false)))] [2, 4, 5, 6, 22]) (k (t 22) .skip (.exit 0))) (q (.block 1 (q (r [o (S 7) N (.new [(g ⟨#[]⟩), (g ⟨#[]⟩), (i U 0)])] [2, 4, 5, 6, 7]) (q (r [o (S 25) N (m (t 5)), o (S 26) N (.mkI 100 (t 25)), y (S 27) N (.fn 52) [(t 26), (t 7)]] [2, 4, 5, 6, 7]) (r [o (S 28) N (.fa 3 (t 4)), o (S 29) N (.ld1 (t 28)), o (S 30) N (.ldN 3 (t 7)), o (S 31) N (.bsl 3 1 [(g ⟨#[]⟩), (g ⟨#[]⟩), (i U 0)] [(0, 3, (t 30))]), o (S 32) N (.app 3 40 (t 29) (t 31)), o (S 33) N (.fa 3 (t 4)), o N N (.st 1 (t 33) (t 32))] [2, 4, 5, 6])))) (r [o (S 23) N (m (t 6)), o (S 24) N (.bin .sub (t 23) (c (i U 1))), o (S 6) N (m (t 24))] [2, 4, 5, 6])))))) (q (q (r [o (S 34) N (m (t 5)), y (S 35) N (.fn 53) [(t 34)], o (S 36) N (.un .not (t 35))] [2, 4, 36]) (k (t 36) (q (r [o (S 37) N (.build [(i B 0), (i U 0), (g ⟨#[]⟩), (.slice none 0 0)] []), o N N (.st 4 (t 2) (t 37)), o (S 3) N (m (c (b false)))] [2, 3]) .ret) s)) (q (r [o (S 38) N (.ldN 4 (t 4)), o N N (.st 4 (t 2) (t 38)), o (S 3) N (m (c (b true)))] [2, 3]) .ret))))))⟩
theorem ok30 : compF Try.prog 30 hi30 = some ir30 := by kernel_rfl
def hi31 : List Hint := [.keep [1], .keep [1, 3], .keep [1, 3], .keep [1, 3, 12, 13], .keep [1, 3, 12, 13], .keep [1, 3, 12, 13, 14], .keep [1, 3, 4, 12, 13], .keep [1, 3, 12, 13], .keep [1, 3, 12, 13], .keep [2]]
def ir31 : IFun := ⟨1, [.tmp 2], (q (r [o (S 1) N (.box (t 0)), o (S 2) N (m (c (g ⟨#[]⟩)))] [1]) (q (r [o (S 5) N (.build [(.slice none 0 0)] []), o (S 6) N (.box (t 5)), o (S 3) N (m (t 6))] [1, 3]) (q (r [o (S 7) N (m (t 3)), o (S 8) N (.mkI 107 (t 7)), y (S 9) N (.fn 51) [(t 8), (t 1)]] [1, 3]) (q (q (r [o (S 10) N (.fa 3 (t 1)), o (S 11) N (.ld1 (t 10)), o (S 12) N (.lenV (t 11)), o (S 13) N (m (c (i I 0)))] [1, 3, 12, 13]) (.block 0 (.loop [1, 3, 12, 13] (q (r [o (S 14) N (.bin .lss (t 13) (t 12))] [1, 3, 12, 13, 14]) (q (k (t 14) .skip (.exit 0)) (q (.block 1 (q (r [o (S 15) N (m (t 13)), o (S 4) N (m (t 15))] [1, 3, 4, 12, 13]) (r [o (S 16) N (m (t 3)), o (S 17) N (.mkI 107 (t 16)), o (S 18) N (.fa 3 (t 1)), o (S 19) N (.ld1 (t 18)), o (S 20) N (m (t 4)), o (S 21) N (.iaV 3 (t 19) (t 20)), y (S 22) N (.fn 52) [(t 17), (t 21)]] [1, 3, 12, 13]))) (r [o (S 23) N (.bin .add (t 13) (c (i I 1))), o (S 13) N (m (t 23))] [1, 3, 12, 13]))))))) (q (r [o (S 24) N (m (t 3)), o (S 25) N (.nck (t 24)), o (S 26) N (.fa 0 (t 25)), o (S 27) N (.ld1 (t 26)), o (S 28) N (.cvB (t 27)), o (S 2) N (m (t 28))] [2]) .ret)))))⟩
theorem ok31 : compF Try.prog 31 hi31 = some ir31 := by kernel_rfl
def hi32 : List Hint := [.keep [0, 1], .keep [0, 1, 5], .keep [0, 1, 5, 12], .keep [4], .keep [0, 1, 5, 6], .keep [0, 1, 5, 6], .keep [0, 1, 5, 6, 19], .keep [0, 1, 5, 6, 7], .keep [0, 1, 5, 6, 7, 29], .keep [0, 1, 5, 6], .keep [0, 1, 5, 6], .keep [0, 1, 5, 6], .keep [0, 5], .keep [4]]
def ir32 : IFun := ⟨2, [.tmp 4], (q (r [o (S 4) N (m (c (.slice none 0 0)))] [0, 1]) (q (r [o (S 8) N (m (t 0)), o (S 9) N (m (t 1)), y (S 10) N (.fn 49) [(t 8), (t 9)], o (S 5) N (m (t 10))] [0, 1, 5]) (q (q (r [o (S 11) N (m (t 5)), o (S 12) N (.bin .eql (t 11) (c (i I (-1))))] [0, 1, 5, 12]) (k (t 12) (q (r [o (S 13) N (m (t 0)), o (S 4) N (m (t 13))] [4]) .ret) s)) (q (q (r [o (S 14) N (m (t 5)), o (S 15) N (.bin .add (t 14) (c (i I 1))), o (S 6) N (m (t 15))] [0, 1, 5, 6]) (.block 0 (.loop [0, 1, 5, 6] (q (q (r [o (S 16) N (m (t 6)), o (S 17) N (m (t 0)), o (S 18) N (.lenV (t 17)), o (S 19) N (.bin .lss (t 16) (t 18))] [0, 1, 5, 6, 19]) (k (t 19) .skip (.exit 0))) (q (.block 1 (q (r [o (S 22) N (m (t 0)), o (S 23) N (m (t 6)), o (S 24) N (.iaV 5 (t 22) (t 23)), o (S 25) N (.ldN 5 (t 24)), o (S 7) N (.new [(i U 0), (i U 0), (i U 0), (i U 0), (g ⟨#[]⟩)]), o N N (.st 5 (t 7) (t 25))] [0, 1, 5, 6, 7]) (q (r [o (S 26) N (m (t 1)), o (S 27) N (.ldN 5 (t 7)), y (S 28) N (.val (t 26)) [(t 27)], o (S 29) N (.un .not (t 28))] [0, 1, 5, 6, 7, 29]) (k (t 29) (q (r [o (S 30) N (m (t 0)), o (S 31) N (m (t 5)), o (S 32) N (.ldN 5 (t 7)), o (S 33) N (.iaV 5 (t 30) (t 31)), o N N (.st 5 (t 33) (t 32))] [0, 1, 5, 6]) (r [o (S 34) N (m (t 5)), o (S 35) N (.bin .add (t 34) (c (i I 1))), o (S 5) N (m (t 35))] [0, 1, 5, 6])) s)))) (r [o (S 20) N (m (t 6)), o (S 21) N (.bin .add (t 20) (c (i I 1))), o (S 6) N (m (t 21))] [0, 1, 5, 6])))))) (q (r [o (S 36) N (m (t 0)), o (S 37) N (m (t 5)), o (S 38) N (.slV 5 (t 36) (S (t 37)) none none), o N N (.clr 5 [(i U 0), (i U 0), (i U 0), (i U 0), (g ⟨#[]⟩)] (t 38))] [0, 5]) (q (r [o (S 39) N (m (t 0)), o (S 40) N (m (t 5)), o (S 41) N (.slV 5 (t 39) N (some (t 40)) none), o (S 4) N (m (t 41))] [4]) .ret))))))⟩
theorem ok32 : compF Try.prog 32 hi32 = some ir32 := by kernel_rfl
def hi33 : List Hint := [.keep [1], .keep [2]]
def ir33 : IFun := ⟨1, [.tmp 2], (q (r [o (S 1) N (.box (t 0)), o (S 2) N (m (c (b false)))] [1]) (q (r [o (S 3) N (.fa 2 (t 1)), o (S 4) N (.ld1 (t 3)), o (S 5) N (.bin .eql (t 4) (c (i U 0))), o (S 2) N (m (t 5))] [2]) .ret))⟩
theorem ok33 : compF Try.prog 33 hi33 = some ir33 := by kernel_rfl
def hi34 : List Hint := [.keep [0, 1], .keep [0, 1, 3, 4, 5], .keep [0, 3, 4], .keep [3], .keep [2]]
def ir34 : IFun := ⟨2, [.tmp 2], (q (r [o (S 2) N (m (c (i U 0)))] [0, 1]) (q (r [o (S 7) N (.ld1 (t 0)), y (S 8) N (.fn 35) [(t 7)], o (S 6) N (m (t 8)), o (S 9) N (.ext (t 6) 0), o (S 10) N (.ext (t 6) 1), o (S 11) N (.ext (t 6) 2), o (S 3) N (m (t 9)), o (S 4) N (m (t 10)), o (S 5) N (m (t 11))] [0, 1, 3, 4, 5]) (q (r [o (S 12) N (.ld1 (t 1)), o (S 13) N (m (t 12)), o (S 14) (S (13, true)) (m (t 5)), o (S 15) N (.pick (t 13) (t 14) (c (b false))), o N N (.st 1 (t 1) (t 15))] [0, 3, 4]) (q (r [o (S 16) N (.ld1 (t 0)), o (S 17) N (m (t 4)), o (S 18) N (.slS (t 16) (S (t 17)) none), o N N (.st 1 (t 0) (t 18))] [3]) (q (r [o (S 19) N (m (t 3)), o (S 2) N (m (t 19))] [2]) .ret)))))⟩
theorem ok34 : compF Try.prog 34 hi34 = some ir34 := by kernel_rfl
def hi35 : List Hint := [.keep [0, 2, 3], .keep [0, 2, 3], .keep [0, 2, 3, 13], .keep [0, 2, 3, 5], .keep [0, 2, 3, 5, 27], .keep [0, 2, 3, 5], .keep [0, 2, 3, 5], .keep [0, 2, 3, 38], .keep [2, 3, 4], .keep [2, 3, 4]]
def ir35 : IFun := ⟨1, [.tmp 2, .tmp 3, .tmp 4], (q (r [o (S 2) N (m (c (i U 0))), o (S 3) N (m (c (i I 0))), o (S 4) N (m (c (b false)))] [0, 2, 3]) (q (.block 0 (.loop [0, 2, 3] (q (q (r [o (S 6) N (m (t 3)), o (S 7) N (m (t 0)), o (S 8) N (.lenS (t 7)), o (S 9) N (.bin .lss (t 6) (t 8)), o (S 10) N (m (t 9)), o (S 11) (S (10, true)) (m (t 3)), o (S 12) (S (10, true)) (.bin .lss (t 11) (c (i I 10))), o (S 13) N (.pick (t 10) (t 12) (c (b false)))] [0, 2, 3, 13]) (k (t 13) .skip (.exit 0))) (.block 1 (q (r [o (S 14) N (m (t 0)), o (S 15) N (m (t 3)), o (S 16) N (.ixS (t 14) (t 15)), o (S 5) N (m (t 16))] [0, 2, 3, 5]) (q (q (r [o (S 17) N (m (t 3)), o (S 18) N (.bin .eql (t 17) (c (i I 0))), o (S 19) N (m (t 18)), o (S 20) (S (19, true)) (m (t 5)), o (S 21) (S (19, true)) (.bin .eql (t 20) (c (i B 128))), o (S 22) N (.pick (t 19) (t 21) (c (b false))), o (S 23) N (m (t 22)), o (S 24) (S (23, false)) (m (t 2)), o (S 25) (S (23, false)) (.bin .shr (t 24) (c (i U 57))), o (S 26) (S (23, false)) (.bin .gtr (t 25) (c (i U 0))), o (S 27) N (.pick (t 23) (c (b true)) (t 26))] [0, 2, 3, 5, 27]) (k (t 27) (.exit 0) s)) (q (r [o (S 28) N (m (t 2)), o (S 29) N (.bin .shl (t 28) (c (i U 7))), o (S 30) N (m (t 5)), o (S 31) N (.bin .and (t 30) (c (i B 127))), o (S 32) N (.cvI .u64 (t 31)), o (S 33) N (.bin .or (t 29) (t 32)), o (S 2) N (m (t 33))] [0, 2, 3, 5]) (q (r [o (S 34) N (m (t 3)), o (S 35) N (.bin .add (t 34) (c (i I 1))), o (S 3) N (m (t 35))] [0, 2, 3, 5]) (q (r [o (S 36) N (m (t 5)), o (S 37) N (.bin .and (t 36) (c (i B 128))), o (S 38) N (.bin .eql (t 37) (c (i B 0)))] [0, 2, 3, 38]) (k (t 38) (q (r [o (S 39) N (m (t 2)), o (S 40) N (m (t 3)), o (S 2) N (m (t 39)), o (S 3) N (m (t 40)), o (S 4) N (m (c (b true)))] [2, 3, 4]) .ret) s)))))))))) (q (r [o (S 2) N (m (c (i U 0))), o (S 3) N (m (c (i I 0))), o (S 4) N (m (c (b false)))] [2, 3, 4]) .ret)))⟩
theorem ok35 : compF Try.prog 35 hi35 = some ir35 := by kernel_rfl
def hi36 : List Hint := [.keep [0], .keep [0, 4, 5, 6], .keep [0, 5, 6, 23], .keep [2, 3, 4], .keep [2, 3, 4]]
def ir36 : IFun := ⟨1, [.tmp 2, .tmp 3, .tmp 4], (q (r [o (S 2) N (m (c (g ⟨#[]⟩))), o (S 3) N (m (c (i I 0))), o (S 4) N (m (c (b false)))] [0]) (q (r [o (S 8) N (m (t 0)), y (S 9) N (.fn 35) [(t 8)], o (S 7) N (m (t 9)), o (S 10) N (.ext (t 7) 0), o (S 11) N (.ext (t 7) 1), o (S 12) N (.ext (t 7) 2), o (S 5) N (m (t 10)), o (S 6) N (m (t 11)), o (S 4) N (m (t 12))] [0, 4, 5, 6]) (q (q (r [o (S 13) N (m (t 4)), o (S 14) N (.un .not (t 13)), o (S 15) N (m (t 14)), o (S 16) (S (15, false)) (m (t 5)), o (S 17) (S (15, false)) (m (t 0)), o (S 18) (S (15, false)) (.lenS (t 17)), o (S 19) (S (15, false)) (m (t 6)), o (S 20) (S (15, false)) (.bin .sub (t 18) (t 19)), o (S 21) (S (15, false)) (.cvI .u64 (t 20)), o (S 22) (S (15, false)) (.bin .gtr (t 16) (t 21)), o (S 23) N (.pick (t 15) (c (b true)) (t 22))] [0, 5, 6, 23]) (k (t 23) (q (r [o (S 2) N (m (c (g ⟨#[]⟩))), o (S 3) N (m (c (i I 0))), o (S 4) N (m (c (b false)))] [2, 3, 4]) .ret) s)) (q (r [o (S 24) N (m (t 0)), o (S 25) N (m (t 6)), o (S 26) N (m (t 6)), o (S 27) N (m (t 5)), o (S 28) N (.cvI .i64 (t 27)), o (S 29) N (.bin .add (t 26) (t 28)), o (S 30) N (.slS (t 24) (S (t 25)) (S (t 29))), o (S 31) N (m (t 6)), o (S 32) N (m (t 5)), o (S 33) N (.cvI .i64 (t 32)), o (S 34) N (.bin .add (t 31) (t 33)), o (S 2) N (m (t 30)), o (S 3) N (m (t 34)), o (S 4) N (m (c (b true)))] [2, 3, 4]) .ret))))⟩
theorem ok36 : compF Try.prog 36 hi36 = some ir36 := by kernel_rfl
def hi37 : List Hint := [.keep [1, 2], .keep [1, 2, 6], .draw [.op 0, .op 1, .op 2, .op 3, .op 4, .op 5, .op 6, .op 7, .op 8, .op 9, .chk 8, .op 10, .op 11, .op 12] [1, 2, 25], .keep [4], .keep [4]]
def ir37 : IFun := ⟨2, [.tmp 4], (q (r [o (S 2) N (.box (t 0)), o (S 4) N (m (c (b false)))] [1, 2]) (q (r [o (S 8) N (.fa 4 (t 2)), o (S 9) N (.ld1 (t 8)), y (S 10) N (.fn 30) [(t 9)], o (S 7) N (m (t 10)), o (S 11) N (.ext (t 7) 0), o (S 12) N (.ext (t 7) 1), o (S 5) N (.new [(i B 0), (i U 0), (g ⟨#[]⟩), (.slice none 0 0)]), o N N (.st 4 (t 5) (t 11)), o (S 6) N (m (t 12))] [1, 2, 6]) (q (q (.draw 13 [o (S 13) N (m (t 6)), o (S 14) N (.un .not (t 13)), o (S 15) N (m (t 14)), o (S 16) (S (15, false)) (.fa 3 (t 2)), o (S 17) (S (15, false)) (.ld1 (t 16)), o (S 18) (S (15, false)) (.bin .eql (t 17) (c (i U 0))), o (S 19) (S (15, false)) (m (t 18)), o (S 20) (S (19, true)) (.fa 4 (t 2)), o (S 21) (S (19, true)) (.ld1 (t 20)), y (S 22) (S (19, true)) (.fn 39) [], .chk 21 (some (19, true)) (.ld1 (t 20)), o (S 23) (S (19, true)) (.bin .neq (t 21) (t 22)), o (S 24) (S (15, false)) (.pick (t 19) (t 23) (c (b false))), o (S 25) N (.pick (t 15) (c (b true)) (t 24))] [1, 2, 25]) (k (t 25) (q (r [o (S 4) N (m (c (b false)))] [4]) .ret) s)) (q (r [o (S 26) N (.fa 0 (t 2)), o (S 27) N (.ld1 (t 26)), o (S 28) N (m (t 1)), o (S 29) N (.bin .gtr (t 27) (t 28)), o (S 30) N (m (t 29)), o (S 31) (S (30, true)) (.fa 2 (t 2)), o (S 32) (S (30, true)) (.ld1 (t 31)), o (S 33) (S (30, true)) (.bin .geq (t 32) (c (i U 1))), o (S 34) N (.pick (t 30) (t 33) (c (b false))), o (S 35) N (m (t 34)), o (S 36) (S (35, true)) (.fa 2 (t 2)), o (S 37) (S (35, true)) (.ld1 (t 36)), o (S 38) (S (35, true)) (.fa 1 (t 2)), o (S 39) (S (35, true)) (.ld1 (t 38)), o (S 40) (S (35, true)) (.bin .leq (t 37) (t 39)), o (S 41) N (.pick (t 35) (t 40) (c (b false))), o (S 4) N (m (t 41))] [4]) .ret))))⟩
theorem ok37 : compF Try.prog 37 hi37 = some ir37 := by kernel_rfl
def hi38 : List Hint := [.keep [0], .keep [0, 3], .keep [3, 8, 9, 10], .keep [3, 8, 9, 10], .keep [3, 8, 9, 10, 11], .keep [3, 5, 8, 9, 10], .keep [3, 5, 6, 8, 9, 10], .keep [3, 5, 6, 7, 8, 9, 10], .keep [3, 5, 6, 7, 8, 9, 10], .keep [3, 5, 6, 7, 8, 9, 10], .keep [3, 5, 6, 7, 8, 9, 10], .keep [3, 5, 6, 7, 8, 9, 10, 22], .keep [3, 5, 6, 7, 8, 9, 10], .keep [3, 5, 6, 7, 8, 9, 10], .keep [3, 5, 6, 7, 8, 9, 10], .keep [3, 8, 9, 10], .keep [3, 8, 9, 10], .keep [2]]
def ir38 : IFun := ⟨1, [.tmp 2], (q (r [o (S 2) N (m (c (g ⟨#[]⟩)))] [0]) (q (r [o (S 3) N (m (c (.slice none 0 0)))] [0, 3]) (q (q (r [o (S 8) N (m (t 0)), o (S 9) N (.lenV (t 8)), o (S 10) N (m (c (i I 0)))] [3, 8, 9, 10]) (.block 0 (.loop [3, 8, 9, 10] (q (r [o (S 11) N (.bin .lss (t 10) (t 9))] [3, 8, 9, 10, 11]) (q (k (t 11) .skip (.exit 0)) (q (.block 1 (q (r [o (S 12) N (.iaV 1 (t 8) (t 10)), o (S 13) N (.ld1 (t 12)), o (S 5) N (m (t 13))] [3, 5, 8, 9, 10]) (q (r [o (S 6) N (.new [(i B 0), (i B 0), (i B 0), (i B 0), (i B 0), (i B 0), (i B 0), (i B 0), (i B 0), (i B 0)])] [3, 5, 6, 8, 9, 10]) (q (r [o (S 7) N (m (c (i I 9)))] [3, 5, 6, 7, 8, 9, 10]) (q (r [o (S 14) N (m (t 7)), o (S 15) N (m (t 5)), o (S 16) N (.bin .and (t 15) (c (i U 127))), o (S 17) N (.cvI .u8 (t 16)), o (S 18) N (.iaA 10 1 (t 6) (t 14)), o N N (.st 1 (t 18) (t 17))] [3, 5, 6, 7, 8, 9, 10]) (q (q (r [o (S 19) N (m (t 5)), o (S 20) N (.bin .shr (t 19) (c (i U 7))), o (S 5) N (m (t 20))] [3, 5, 6, 7, 8, 9, 10]) (.block 2 (.loop [3, 5, 6, 7, 8, 9, 10] (q (q (r [o (S 21) N (m (t 5)), o (S 22) N (.bin .gtr (t 21) (c (i U 0)))] [3, 5, 6, 7, 8, 9, 10, 22]) (k (t 22) .skip (.exit 2))) (q (.block 3 (q (r [o (S 25) N (m (t 7)), o (S 26) N (.bin .sub (t 25) (c (i I 1))), o (S 7) N (m (t 26))] [3, 5, 6, 7, 8, 9, 10]) (r [o (S 27) N (m (t 7)), o (S 28) N (m (t 5)), o (S 29) N (.bin .and (t 28) (c (i U 127))), o (S 30) N (.cvI .u8 (t 29)), o (S 31) N (.bin .or (t 30) (c (i B 128))), o (S 32) N (.iaA 10 1 (t 6) (t 27)), o N N (.st 1 (t 32) (t 31))] [3, 5, 6, 7, 8, 9, 10]))) (r [o (S 23) N (m (t 5)), o (S 24) N (.bin .shr (t 23) (c (i U 7))), o (S 5) N (m (t 24))] [3, 5, 6, 7, 8, 9, 10])))))) (r [o (S 33) N (m (t 3)), o (S 34) N (m (t 7)), o (S 35) N (.slA 10 1 (t 6) (S (t 34)) none none), o (S 36) N (.app 1 1 (t 33) (t 35)), o (S 3) N (m (t 36))] [3, 8, 9, 10]))))))) (r [o (S 37) N (.bin .add (t 10) (c (i I 1))), o (S 10) N (m (t 37))] [3, 8, 9, 10]))))))) (q (r [o (S 38) N (m (t 3)), o (S 39) N (.cvB (t 38)), o (S 2) N (m (t 39))] [2]) .ret))))⟩
theorem ok38 : compF Try.prog 38 hi38 = some ir38 := by kernel_rfl
def hi39 : List Hint := [.keep [], .keep [0]]
def ir39 : IFun := ⟨0, [.tmp 0], (q (r [o (S 0) N (m (c (g ⟨#[]⟩)))] []) (q (r [o (S 1) N (.build [(i B 0), (i U 0), (g ⟨#[]⟩), (.slice none 0 0)] []), y (S 2) N (.fn 31) [(t 1)], o (S 0) N (m (t 2))] [0]) .ret))⟩
theorem ok39 : compF Try.prog 39 hi39 = some ir39 := by kernel_rfl
def hi40 : List Hint := [.keep [0], .keep [0, 3], .keep [3, 6, 7, 8], .keep [3, 6, 7, 8], .keep [3, 6, 7, 8, 9], .keep [3, 5, 6, 7, 8], .keep [3, 6, 7, 8], .keep [3, 6, 7, 8], .keep [2]]
def ir40 : IFun := ⟨1, [.tmp 2], (q (r [o (S 2) N (m (c (g ⟨#[]⟩)))] [0]) (q (r [o (S 3) N (m (c (g ⟨#[]⟩)))] [0, 3]) (q (q (r [o (S 6) N (m (t 0)), o (S 7) N (.lenV (t 6)), o (S 8) N (m (c (i I 0)))] [3, 6, 7, 8]) (.block 0 (.loop [3, 6, 7, 8] (q (r [o (S 9) N (.bin .lss (t 8) (t 7))] [3, 6, 7, 8, 9]) (q (k (t 9) .skip (.exit 0)) (q (.block 1 (q (r [o (S 10) N (.iaV 1 (t 6) (t 8)), o (S 11) N (.ld1 (t 10)), o (S 5) N (m (t 11))] [3, 5, 6, 7, 8]) (r [o (S 12) N (m (t 3)), o (S 13) N (m (t 5)), o (S 14) N (.lenS (t 13)), o (S 15) N (.cvI .u64 (t 14)), o (S 16) N (.bsl 1 1 [(i U 0)] [(0, 1, (t 15))]), y (S 17) N (.fn 38) [(t 16)], o (S 18) N (m (t 5)), o (S 19) N (.bin .add (t 17) (t 18)), o (S 20) N (.bin .add (t 12) (t 19)), o (S 3) N (m (t 20))] [3, 6, 7, 8]))) (r [o (S 21) N (.bin .add (t 8) (c (i I 1))), o (S 8) N (m (t 21))] [3, 6, 7, 8]))))))) (q (r [o (S 22) N (m (t 3)), o (S 2) N (m (t 22))] [2]) .ret))))⟩
theorem ok40 : compF Try.prog 40 hi40 = some ir40 := by kernel_rfl
def hi41 : List Hint := [.keep [0], .keep [0, 3], .keep [0, 3, 4], .keep [0, 3, 4], .keep [0, 3, 4, 8], .keep [0, 3, 4], .keep [0, 3, 4], .keep [2]]
def ir41 : IFun := ⟨1, [.tmp 2], (q (r [o (S 2) N (m (c (g ⟨#[]⟩)))] [0]) (q (r [o (S 3) N (m (c (g ⟨#[]⟩)))] [0, 3]) (q (q (r [o (S 4) N (m (c (i I 0)))] [0, 3, 4]) (.block 0 (.loop [0, 3, 4] (q (q (r [o (S 5) N (m (t 4)), o (S 6) N (m (t 0)), o (S 7) N (.lenV (t 6)), o (S 8) N (.bin .lss (t 5) (t 7))] [0, 3, 4, 8]) (k (t 8) .skip (.exit 0))) (q (.block 1 (r [o (S 11) N (m (t 3)), o (S 12) N (m (t 0)), o (S 13) N (m (t 4)), o (S 14) N (.iaV 1 (t 12) (t 13)), o (S 15) N (.ld1 (t 14)), y (S 16) N (.fn 47) [(t 15)], o (S 17) N (.bin .add (t 11) (t 16)), o (S 3) N (m (t 17))] [0, 3, 4])) (r [o (S 9) N (m (t 4)), o (S 10) N (.bin .add (t 9) (c (i I 1))), o (S 4) N (m (t 10))] [0, 3, 4])))))) (q (r [o (S 18) N (m (t 3)), o (S 2) N (m (t 18))] [2]) .ret))))⟩
theorem ok41 : compF Try.prog 41 hi41 = some ir41 := by kernel_rfl
def hi42 : List Hint := [.keep [0], .keep [0, 3], .keep [0, 3, 4], .keep [0, 3, 4], .keep [0, 3, 4, 8], .draw [.op 0, .op 1, .op 2, .op 3, .op 4, .op 5, .op 6, .op 9, .op 10, .op 11, .op 12, .op 7, .chk 12, .op 8, .op 13, .op 14] [0, 3, 4], .keep [0, 3, 4], .keep [2]]
def ir42 : IFun := ⟨1, [.tmp 2], (q (r [o (S 2) N (m (c (g ⟨#[]⟩)))] [0]) (q (r [o (S 3) N (m (c (g ⟨#[]⟩)))] [0, 3]) (q (q (r [o (S 4) N (m (c (i I 0)))] [0, 3, 4]) (.block 0 (.loop [0, 3, 4] (q (q (r [o (S 5) N (m (t 4)), o (S 6) N (m (t 0)), o (S 7) N (.lenV (t 6)), o (S 8) N (.bin .lss (t 5) (t 7))] [0, 3, 4, 8]) (k (t 8) .skip (.exit 0))) (q (.block 1 (.draw 15 [o (S 11) N (m (t 3)), o (S 12) N (m (t 0)), o (S 13) N (m (t 4)), o (S 14) N (.iaV 1 (t 12) (t 13)), o (S 15) N (.ld1 (t 14)), o (S 16) N (.lenS (t 15)), o (S 17) N (.cvI .u64 (t 16)), o (S 20) N (m (t 0)), o (S 21) N (m (t 4)), o (S 22) N (.iaV 1 (t 20) (t 21)), o (S 23) N (.ld1 (t 22)), y (S 18) N (.fn 47) [(t 17)], .chk 23 none (.ld1 (t 22)), o (S 19) N (.bin .add (t 11) (t 18)), o (S 24) N (.bin .add (t 19) (t 23)), o (S 3) N (m (t 24))] [0, 3, 4])) (r [o (S 9) N (m (t 4)), o (S 10) N (.bin .add (t 9) (c (i I 1))), o (S 4) N (m (t 10))] [0, 3, 4])))))) (q (r [o (S 25) N (m (t 3)), o (S 2) N (m (t 25))] [2]) .ret))))⟩
theorem ok42 : compF Try.prog 42 hi42 = some ir42 := by kernel_rfl
def hi43 : List Hint := [.keep [0, 1, 2], .keep [0, 1, 2, 8], .keep [0, 1, 2, 8, 9], .keep [0, 1, 2, 8, 9], .keep [0, 1, 2, 8, 9, 15], .keep [0, 1, 2, 8, 9, 10, 11, 12], .keep [0, 1, 2, 8, 9, 10, 11, 27], .keep [6, 7], .keep [0, 1, 2, 8, 9, 11], .keep [0, 1, 2, 8, 9], .keep [0, 1, 2, 8, 9], .keep [6, 7]]
def ir43 : IFun := ⟨3, [.tmp 6, .tmp 7], (q (r [o (S 6) N (m (c (.slice none 0 0))), o (S 7) N (m (c (i I 0)))] [0, 1, 2]) (q (r [o (S 8) N (m (c (.slice none 0 0)))] [0, 1, 2, 8]) (q (q (r [o (S 9) N (m (c (i I 0)))] [0, 1, 2, 8, 9]) (.block 0 (.loop [0, 1, 2, 8, 9] (q (q (r [o (S 13) N (m (t 9)), o (S 14) N (m (t 2)), o (S 15) N (.bin .lss (t 13) (t 14))] [0, 1, 2, 8, 9, 15]) (k (t 15) .skip (.exit 0))) (q (.block 1 (q (r [o (S 19) N (m (t 0)), o (S 20) N (m (t 1)), o (S 21) N (.slS (t 19) (S (t 20)) none), y (S 22) N (.fn 54) [(t 21)], o (S 18) N (m (t 22)), o (S 23) N (.ext (t 18) 0), o (S 24) N (.ext (t 18) 1), o (S 25) N (.ext (t 18) 2), o (S 10) N (m (t 23)), o (S 11) N (m (t 24)), o (S 12) N (m (t 25))] [0, 1, 2, 8, 9, 10, 11, 12]) (q (q (r [o (S 26) N (m (t 12)), o (S 27) N (.un .not (t 26))] [0, 1, 2, 8, 9, 10, 11, 27]) (k (t 27) (q (r [o (S 6) N (m (c (.slice none 0 0))), o (S 7) N (m (c (i I (-1))))] [6, 7]) .ret) s)) (q (r [o (S 28) N (m (t 8)), o (S 29) N (m (t 10)), o (S 30) N (.bsl 1 1 [(i U 0)] [(0, 1, (t 29))]), o (S 31) N (.app 1 8 (t 28) (t 30)), o (S 8) N (m (t 31))] [0, 1, 2, 8, 9, 11]) (r [o (S 32) N (m (t 1)), o (S 33) N (m (t 11)), o (S 34) N (.bin .add (t 32) (t 33)), o (S 1) N (m (t 34))] [0, 1, 2, 8, 9]))))) (r [o (S 16) N (m (t 9)), o (S 17) N (.bin .add (t 16) (c (i I 1))), o (S 9) N (m (t 17))] [0, 1, 2, 8, 9])))))) (q (r [o (S 35) N (m (t 8)), o (S 36) N (m (t 1)), o (S 6) N (m (t 35)), o (S 7) N (m (t 36))] [6, 7]) .ret))))⟩
theorem ok43 : compF Try.prog 43 hi43 = some ir43 := by kernel_rfl
def hi44 : List Hint := [.keep [0], .keep [0, 5, 6, 7], .keep [0, 5, 6, 31], .keep [2, 3, 4], .keep [2, 3, 4]]
def ir44 : IFun := ⟨1, [.tmp 2, .tmp 3, .tmp 4], (q (r [o (S 2) N (m (c (g ⟨#[]⟩))), o (S 3) N (m (c (i I 0))), o (S 4) N (m (c (b false)))] [0]) (q (r [o (S 9) N (m (t 0)), y (S 10) N (.fn 54) [(t 9)], o (S 8) N (m (t 10)), o (S 11) N (.ext (t 8) 0), o (S 12) N (.ext (t 8) 1), o (S 13) N (.ext (t 8) 2), o (S 5) N (m (t 11)), o (S 6) N (m (t 12)), o (S 7) N (m (t 13))] [0, 5, 6, 7]) (q (q (r [o (S 14) N (m (t 7)), o (S 15) N (.un .not (t 14)), o (S 16) N (m (t 15)), o (S 17) (S (16, false)) (m (t 5)), o (S 18) (S (16, false)) (m (t 0)), o (S 19) (S (16, false)) (.lenS (t 18)), o (S 20) (S (16, false)) (.cvI .u64 (t 19)), o (S 21) (S (16, false)) (.bin .gtr (t 17) (t 20)), o (S 22) N (.pick (t 16) (c (b true)) (t 21)), o (S 23) N (m (t 22)), o (S 24) (S (23, false)) (m (t 6)), o (S 25) (S (23, false)) (m (t 5)), o (S 26) (S (23, false)) (.cvI .i64 (t 25)), o (S 27) (S (23, false)) (.bin .add (t 24) (t 26)), o (S 28) (S (23, false)) (m (t 0)), o (S 29) (S (23, false)) (.lenS (t 28)), o (S 30) (S (23, false)) (.bin .gtr (t 27) (t 29)), o (S 31) N (.pick (t 23) (c (b true)) (t 30))] [0, 5, 6, 31]) (k (t 31) (q (r [o (S 2) N (m (c (g ⟨#[]⟩))), o (S 3) N (m (c (i I 0))), o (S 4) N (m (c (b false)))] [2, 3, 4]) .ret) s)) (q (r [o (S 32) N (m (t 0)), o (S 33) N (m (t 6)), o (S 34) N (m (t 6)), o (S 35) N (m (t 5)), o (S 36) N (.cvI .i64 (t 35)), o (S 37) N (.bin .add (t 34) (t 36)), o (S 38) N (.slS (t 32) (S (t 33)) (S (t 37))), o (S 39) N (m (t 6)), o (S 40) N (m (t 5)), o (S 41) N (.cvI .i64 (t 40)), o (S 42) N (.bin .add (t 39) (t 41)), o (S 2) N (m (t 38)), o (S 3) N (m (t 42)), o (S 4) N (m (c (b true)))] [2, 3, 4]) .ret))))⟩
theorem ok44 : compF Try.prog 44 hi44 = some ir44 := by kernel_rfl
def hi45 : List Hint := [.keep [0, 2], .keep [2, 4], .keep [2, 4, 5], .keep [2, 4, 5], .keep [2, 4, 5], .keep [2, 4, 5, 6], .keep [2, 4, 5, 6, 7], .keep [2, 4, 5, 6, 7], .keep [2, 4, 5, 6, 7, 32], .keep [2, 4, 5, 6, 7, 8], .keep [2, 4, 5, 6, 7, 8], .keep [2, 4, 5, 6, 7, 8], .keep [2, 4, 5, 6, 7], .keep [2, 4, 5, 6, 7], .keep [2, 5, 62], .keep [2, 3], .keep [2, 3]]
def ir45 : IFun := ⟨1, [.cell 2 (some 4), .tmp 3], (q (r [o (S 2) N (.new [(i B 0), (i U 0), (g ⟨#[]⟩), (.slice none 0 0)]), o (S 3) N (m (c (b false)))] [0, 2]) (q (r [o (S 9) N (m (t 0)), o (S 10) N (.build [(g ⟨#[]⟩), (b false)] [(0, 1, (t 9)), (1, 1, (c (b true)))]), o (S 11) N (.box (t 10)), o (S 4) N (m (t 11))] [2, 4]) (q (r [o (S 12) N (m (t 4)), y (S 13) N (.fn 55) [(t 12)], o (S 14) N (.cvI .u8 (t 13)), o (S 15) N (.build [(i B 0), (i U 0), (g ⟨#[]⟩), (.slice none 0 0)] [(0, 1, (t 14))]), o (S 5) N (.new [(i B 0), (i U 0), (g ⟨#[]⟩), (.slice none 0 0)]), o N N (.st 4 (t 5) (t 15))] [2, 4, 5]) (q (r [o (S 16) N (m (t 4)), y (S 17) N (.fn 56) [(t 16)], o (S 18) N (.fa 1 (t 5)), o N N (.st 1 (t 18) (t 17))] [2, 4, 5]) (q (r [o (S 19) N (m (t 4)), y (S 20) N (.fn 57) [(t 19)], o (S 21) N (.fa 2 (t 5)), o N N (.st 1 (t 21) (t 20))] [2, 4, 5]) (q (r [o (S 22) N (m (t 4)), y (S 23) N (.fn 56) [(t 22)], o (S 6) N (m (t 23))] [2, 4, 5, 6]) (q (q (r [o (S 7) N (m (c (i U 0)))] [2, 4, 5, 6, 7]) (.block 0 (.loop [2, 4, 5, 6, 7] (q (q (r [o (S 24) N (m (t 7)), o (S 25) N (m (t 6)), o (S 26) N (.bin .lss (t 24) (t 25)), o (S 27) N (m (t 26)), o (S 28) (S (27, true)) (m (t 4)), o (S 29) (S (27, true)) (.nck (t 28)), o (S 30) (S (27, true)) (.fa 1 (t 29)), o (S 31) (S (27, true)) (.ld1 (t 30)), o (S 32) N (.pick (t 27) (t 31) (c (b false)))] [2, 4, 5, 6, 7, 32]) (k (t 32) .skip (.exit 0))) (q (.block 1 (q (r [o (S 35) N (m (t 4)), y (S 36) N (.fn 57) [(t 35)], o (S 37) N (.build [(g ⟨#[]⟩), (g ⟨#[]⟩), (i U 0)] [(0, 1, (t 36))]), o (S 8) N (.new [(g ⟨#[]⟩), (g ⟨#[]⟩), (i U 0)]), o N N (.st 3 (t 8) (t 37))] [2, 4, 5, 6, 7, 8]) (q (r [o (S 38) N (m (t 4)), y (S 39) N (.fn 57) [(t 38)], o (S 40) N (.fa 1 (t 8)), o N N (.st 1 (t 40) (t 39))] [2, 4, 5, 6, 7, 8]) (q (r [o (S 41) N (m (t 4)), y (S 42) N (.fn 56) [(t 41)], o (S 43) N (.fa 2 (t 8)), o N N (.st 1 (t 43) (t 42))] [2, 4, 5, 6, 7, 8]) (r [o (S 44) N (.fa 3 (t 5)), o (S 45) N (.ld1 (t 44)), o (S 46) N (.ldN 3 (t 8)), o (S 47) N (.bsl 3 1 [(g ⟨#[]⟩), (g ⟨#[]⟩), (i U 0)] [(0, 3, (t 46))]), o (S 48) N (.app 3 40 (t 45) (t 47)), o (S 49) N (.fa 3 (t 5)), o N N (.st 1 (t 49) (t 48))] [2, 4, 5, 6, 7]))))) (r [o (S 33) N (m (t 7)), o (S 34) N (.bin .add (t 33) (c (i U 1))), o (S 7) N (m (t 34))] [2, 4, 5, 6, 7])))))) (q (q (r [o (S 50) N (m (t 4)), o (S 51) N (.nck (t 50)), o (S 52) N (.fa 1 (t 51)), o (S 53) N (.ld1 (t 52)), o (S 54) N (.un .not (t 53)), o (S 55) N (m (t 54)), o (S 56) (S (55, false)) (m (t 4)), o (S 57) (S (55, false)) (.nck (t 56)), o (S 58) (S (55, false)) (.fa 0 (t 57)), o (S 59) (S (55, false)) (.ld1 (t 58)), o (S 60) (S (55, false)) (.lenS (t 59)), o (S 61) (S (55, false)) (.bin .gtr (t 60) (c (i I 0))), o (S 62) N (.pick (t 55) (c (b true)) (t 61))] [2, 5, 62]) (k (t 62) (q (r [o (S 63) N (.build [(i B 0), (i U 0), (g ⟨#[]⟩), (.slice none 0 0)] []), o N N (.st 4 (t 2) (t 63)), o (S 3) N (m (c (b false)))] [2, 3]) .ret) s)) (q (r [o (S 64) N (.ldN 4 (t 5)), o N N (.st 4 (t 2) (t 64)), o (S 3) N (m (c (b true)))] [2, 3]) .ret)))))))))⟩
theorem ok45 : compF Try.prog 45 hi45 = some ir45 := by kernel_rfl
def hi46 : List Hint := [.keep [0], .keep [2]]
def ir46 : IFun := ⟨1, [.tmp 2], (q (r [o (S 2) N (m (c (g ⟨#[]⟩)))] [0]) (q (r [o (S 3) N (m (t 0)), o (S 4) N (.cvI .u8 (t 3)), o (S 5) N (.bsl 1 1 [(i B 0)] [(0, 1, (t 4))]), o (S 6) N (.cvB (t 5)), o (S 2) N (m (t 6))] [2]) .ret))⟩
theorem ok46 : compF Try.prog 46 hi46 = some ir46 := by kernel_rfl
def hi47 : List Hint := [.keep [0], .keep [0, 3], .keep [0, 3], .keep [0, 3, 10], .keep [0, 3], .keep [0, 3], .keep [2]]
def ir47 : IFun := ⟨1, [.tmp 2], (q (r [o (S 2) N (m (c (g ⟨#[]⟩)))] [0]) (q (r [o (S 4) N (m (t 0)), o (S 5) N (.bin .rem (t 4) (c (i U 128))), o (S 6) N (.cvI .u8 (t 5)), o (S 7) N (.bsl 1 1 [(i B 0)] [(0, 1, (t 6))]), o (S 8) N (.cvB (t 7)), o (S 3) N (m (t 8))] [0, 3]) (q (.block 0 (.loop [0, 3] (q (q (r [o (S 9) N (m (t 0)), o (S 10) N (.bin .gtr (t 9) (c (i U 127)))] [0, 3, 10]) (k (t 10) .skip (.exit 0))) (.block 1 (q (r [o (S 11) N (m (t 0)), o (S 12) N (.bin .quo (t 11) (c (i U 128))), o (S 0) N (m (t 12))] [0, 3]) (r [o (S 13) N (m (t 0)), o (S 14) N (.bin .rem (t 13) (c (i U 128))), o (S 15) N (.bin .add (c (i U 128)) (t 14)), o (S 16) N (.cvI .u8 (t 15)), o (S 17) N (.bsl 1 1 [(i B 0)] [(0, 1, (t 16))]), o (S 18) N (.cvB (t 17)), o (S 19) N (m (t 3)), o (S 20) N (.bin .add (t 18) (t 19)), o (S 3) N (m (t 20))] [0, 3])))))) (q (r [o (S 21) N (m (t 3)), o (S 2) N (m (t 21))] [2]) .ret))))⟩
theorem ok47 : compF Try.prog 47 hi47 = some ir47 := by kernel_rfl
def hi48 : List Hint := [.keep [0], .keep [2]]
def ir48 : IFun := ⟨1, [.tmp 2], (q (r [o (S 2) N (m (c (g ⟨#[]⟩)))] [0]) (q (r [o (S 3) N (m (t 0)), o (S 4) N (.bsl 1 1 [(g ⟨#[]⟩)] [(0, 1, (t 3))]), y (S 5) N (.fn 42) [(t 4)], o (S 2) N (m (t 5))] [2]) .ret))⟩
theorem ok48 : compF Try.prog 48 hi48 = some ir48 := by kernel_rfl
def hi49 : List Hint := [.keep [0, 1], .keep [0, 1, 7, 8], .keep [0, 1, 7, 8], .keep [0, 1, 7, 8, 9], .keep [0, 1, 5, 7, 8], .keep [0, 1, 5, 7, 8, 16], .keep [4], .keep [0, 1, 7, 8], .keep [4]]
def ir49 : IFun := ⟨2, [.tmp 4], (q (r [o (S 4) N (m (c (i I 0)))] [0, 1]) (q (q (r [o (S 6) N (m (t 0)), o (S 7) N (.lenV (t 6)), o (S 8) N (m (c (i I 0)))] [0, 1, 7, 8]) (.block 0 (.loop [0, 1, 7, 8] (q (r [o (S 9) N (.bin .lss (t 8) (t 7))] [0, 1, 7, 8, 9]) (q (k (t 9) .skip (.exit 0)) (q (.block 1 (q (r [o (S 10) N (m (t 8)), o (S 5) N (m (t 10))] [0, 1, 5, 7, 8]) (q (r [o (S 11) N (m (t 1)), o (S 12) N (m (t 0)), o (S 13) N (m (t 5)), o (S 14) N (.iaV 5 (t 12) (t 13)), o (S 15) N (.ldN 5 (t 14)), y (S 16) N (.val (t 11)) [(t 15)]] [0, 1, 5, 7, 8, 16]) (k (t 16) (q (r [o (S 17) N (m (t 5)), o (S 4) N (m (t 17))] [4]) .ret) s)))) (r [o (S 18) N (.bin .add (t 8) (c (i I 1))), o (S 8) N (m (t 18))] [0, 1, 7, 8]))))))) (q (r [o (S 4) N (m (c (i I (-1))))] [4]) .ret)))⟩
theorem ok49 : compF Try.prog 49 hi49 = some ir49 := by kernel_rfl
def hi50 : List Hint := [.keep [1, 2], .keep [3]]
def ir50 : IFun := ⟨2, [.tmp 3], (q (r [o (S 2) N (.box (t 0)), o (S 3) N (m (c (b false)))] [1, 2]) (q (r [o (S 4) N (.fa 0 (t 2)), o (S 5) N (.ld1 (t 4)), o (S 6) N (.ld1 (t 1)), o (S 7) N (.bin .eql (t 5) (t 6)), o (S 3) N (m (t 7))] [3]) .ret))⟩
theorem ok50 : compF Try.prog 50 hi50 = some ir50 := by kernel_rfl
def hi51 : List Hint := [.keep [0, 1], .keep [0, 1, 5], .draw [.op 0, .op 1, .op 2, .op 3, .op 4, .op 5, .op 6, .op 7] [0, 1, 5], .draw [.op 0, .op 1, .op 2, .op 3, .op 4, .op 5, .op 6, .op 7] [0, 1, 5], .draw [.op 0, .op 1, .op 2, .op 3, .op 4, .op 5, .op 6, .op 7] [0, 5], .keep [5], .keep [4]]
def ir51 : IFun := ⟨2, [.tmp 4], (q (r [o (S 4) N (m (c (i U 0)))] [0, 1]) (q (r [o (S 6) N (m (t 1)), o (S 7) N (.nck (t 6)), o (S 8) N (.fa 3 (t 7)), o (S 9) N (.ld1 (t 8)), o (S 10) N (.lenV (t 9)), o (S 11) N (.cvI .u64 (t 10)), o (S 5) N (.new [(i U 0)]), o N N (.st 1 (t 5) (t 11))] [0, 1, 5]) (q (.draw 8 [o (S 12) N (m (t 0)), o (S 13) N (m (t 1)), o (S 14) N (.nck (t 13)), o (S 15) N (.fa 0 (t 14)), o (S 16) N (.mkF (.method "wapentake/cmd.byte") [(t 12)] []), o (S 17) N (.nckM "wapentake/cmd.byte" [100, 107] (t 16)), o (S 18) N (m (t 12)), y (S 19) N (.inv (t 18) [(100, 73), (107, 77)]) [(t 15)]] [0, 1, 5]) (q (.draw 8 [o (S 20) N (m (t 0)), o (S 21) N (m (t 1)), o (S 22) N (.nck (t 21)), o (S 23) N (.fa 1 (t 22)), o (S 24) N (.mkF (.method "wapentake/cmd.number") [(t 20)] []), o (S 25) N (.nckM "wapentake/cmd.number" [100, 107] (t 24)), o (S 26) N (m (t 20)), y (S 27) N (.inv (t 26) [(100, 74), (107, 78)]) [(t 23)]] [0, 1, 5]) (q (.draw 8 [o (S 28) N (m (t 0)), o (S 29) N (m (t 1)), o (S 30) N (.nck (t 29)), o (S 31) N (.fa 2 (t 30)), o (S 32) N (.mkF (.method "wapentake/cmd.text") [(t 28)] []), o (S 33) N (.nckM "wapentake/cmd.text" [100, 107] (t 32)), o (S 34) N (m (t 28)), y (S 35) N (.inv (t 34) [(100, 75), (107, 79)]) [(t 31)]] [0, 5]) (q (r [o (S 36) N (m (t 0)), y (S 37) N (.inv (t 36) [(100, 74), (107, 78)]) [(t 5)]] [5]) (q (r [o (S 38) N (.ld1 (t 5)), o (S 4) N (m (t 38))] [4]) .ret)))))))⟩
theorem ok51 : compF Try.prog 51 hi51 = some ir51 := by kernel_rfl
def hi52 : List Hint := [.draw [.op 0, .op 1, .op 2, .op 3, .op 4, .op 5, .op 6, .op 7] [0, 1], .draw [.op 0, .op 1, .op 2, .op 3, .op 4, .op 5, .op 6, .op 7] [0, 1], .draw [.op 0, .op 1, .op 2, .op 3, .op 4, .op 5, .op 6, .op 7] []]
def ir52 : IFun := ⟨2, [], (q (.draw 8 [o (S 4) N (m (t 0)), o (S 5) N (m (t 1)), o (S 6) N (.nck (t 5)), o (S 7) N (.fa 0 (t 6)), o (S 8) N (.mkF (.method "wapentake/cmd.text") [(t 4)] []), o (S 9) N (.nckM "wapentake/cmd.text" [100, 107] (t 8)), o (S 10) N (m (t 4)), y (S 11) N (.inv (t 10) [(100, 75), (107, 79)]) [(t 7)]] [0, 1]) (q (.draw 8 [o (S 12) N (m (t 0)), o (S 13) N (m (t 1)), o (S 14) N (.nck (t 13)), o (S 15) N (.fa 1 (t 14)), o (S 16) N (.mkF (.method "wapentake/cmd.text") [(t 12)] []), o (S 17) N (.nckM "wapentake/cmd.text" [100, 107] (t 16)), o (S 18) N (m (t 12)), y (S 19) N (.inv (t 18) [(100, 75), (107, 79)]) [(t 15)]] [0, 1]) (.draw 8 [o (S 20) N (m (t 0)), o (S 21) N (m (t 1)), o (S 22) N (.nck (t 21)), o (S 23) N (.fa 2 (t 22)), o (S 24) N (.mkF (.method "wapentake/cmd.number") [(t 20)] []), o (S 25) N (.nckM "wapentake/cmd.number" [100, 107] (t 24)), o (S 26) N (m (t 20)), y (S 27) N (.inv (t 26) [(100, 74), (107, 78)]) [(t 23)]] [])))⟩
theorem ok52 : compF Try.prog 52 hi52 = some ir52 := by kernel_rfl
def hi53 : List Hint := [.keep [0], .keep [2]]
def ir53 : IFun := ⟨1, [.tmp 2], (q (r [o (S 2) N (m (c (b false)))] [0]) (q (r [o (S 3) N (m (t 0)), o (S 4) N (.nck (t 3)), o (S 5) N (.fa 1 (t 4)), o (S 6) N (.ld1 (t 5)), o (S 7) N (.un .not (t 6)), o (S 8) N (m (t 7)), o (S 9) (S (8, true)) (m (t 0)), o (S 10) (S (8, true)) (.nck (t 9)), o (S 11) (S (8, true)) (.fa 0 (t 10)), o (S 12) (S (8, true)) (.ld1 (t 11)), o (S 13) (S (8, true)) (.bin .eql (t 12) (c (g ⟨#[]⟩))), o (S 14) N (.pick (t 8) (t 13) (c (b false))), o (S 2) N (m (t 14))] [2]) .ret))⟩
theorem ok53 : compF Try.prog 53 hi53 = some ir53 := by kernel_rfl
def hi54 : List Hint := [.keep [0], .keep [0, 5], .keep [0, 5, 6], .keep [0, 5, 6], .keep [0, 5, 6, 14], .keep [0, 5, 6], .keep [0, 5, 6, 28], .draw [.op 0, .op 2, .op 3, .op 4, .op 5, .op 1, .op 6] [5, 6, 35], .keep [2, 3, 4], .keep [2, 3, 4], .keep [0, 5, 6], .keep [2, 3, 4]]
def ir54 : IFun := ⟨1, [.tmp 2, .tmp 3, .tmp 4], (q (r [o (S 2) N (m (c (i U 0))), o (S 3) N (m (c (i I 0))), o (S 4) N (m (c (b false)))] [0]) (q (r [o (S 5) N (m (c (i U 0)))] [0, 5]) (q (q (r [o (S 6) N (m (c (i I 0)))] [0, 5, 6]) (.block 0 (.loop [0, 5, 6] (q (q (r [o (S 7) N (m (t 6)), o (S 8) N (m (t 0)), o (S 9) N (.lenS (t 8)), o (S 10) N (.bin .lss (t 7) (t 9)), o (S 11) N (m (t 10)), o (S 12) (S (11, true)) (m (t 6)), o (S 13) (S (11, true)) (.bin .lss (t 12) (c (i I 10))), o (S 14) N (.pick (t 11) (t 13) (c (b false)))] [0, 5, 6, 14]) (k (t 14) .skip (.exit 0))) (q (.block 1 (q (r [o (S 17) N (m (t 5)), o (S 18) N (.bin .mul (c (i U 128)) (t 17)), o (S 19) N (m (t 0)), o (S 20) N (m (t 6)), o (S 21) N (.ixS (t 19) (t 20)), o (S 22) N (.bin .rem (t 21) (c (i B 128))), o (S 23) N (.cvI .u64 (t 22)), o (S 24) N (.bin .add (t 18) (t 23)), o (S 5) N (m (t 24))] [0, 5, 6]) (q (r [o (S 25) N (m (t 0)), o (S 26) N (m (t 6)), o (S 27) N (.ixS (t 25) (t 26)), o (S 28) N (.bin .lss (t 27) (c (i B 128)))] [0, 5, 6, 28]) (k (t 28) (q (q (.draw 7 [o (S 29) N (m (t 5)), o (S 31) N (m (t 0)), o (S 32) N (m (t 6)), o (S 33) N (.bin .add (t 32) (c (i I 1))), o (S 34) N (.slS (t 31) N (some (t 33))), y (S 30) N (.fn 47) [(t 29)], o (S 35) N (.bin .neq (t 30) (t 34))] [5, 6, 35]) (k (t 35) (q (r [o (S 2) N (m (c (i U 0))), o (S 3) N (m (c (i I 0))), o (S 4) N (m (c (b false)))] [2, 3, 4]) .ret) s)) (q (r [o (S 36) N (m (t 5)), o (S 37) N (m (t 6)), o (S 38) N (.bin .add (t 37) (c (i I 1))), o (S 2) N (m (t 36)), o (S 3) N (m (t 38)), o (S 4) N (m (c (b true)))] [2, 3, 4]) .ret)) s)))) (r [o (S 15) N (m (t 6)), o (S 16) N (.bin .add (t 15) (c (i I 1))), o (S 6) N (m (t 16))] [0, 5, 6])))))) (q (r [o (S 2) N (m (c (i U 0))), o (S 3) N (m (c (i I 0))), o (S 4) N (m (c (b false)))] [2, 3, 4]) .ret))))⟩
theorem ok54 : compF Try.prog 54 hi54 = some ir54 := by kernel_rfl
def hi55 : List Hint := [.keep [0], .keep [0, 9], .keep [], .keep [2], .keep [0, 3], .keep [3], .keep [2]]
def ir55 : IFun := ⟨1, [.tmp 2], (q (r [o (S 2) N (m (c (i I 0)))] [0]) (q (q (r [o (S 4) N (m (t 0)), o (S 5) N (.nck (t 4)), o (S 6) N (.fa 0 (t 5)), o (S 7) N (.ld1 (t 6)), o (S 8) N (.lenS (t 7)), o (S 9) N (.bin .eql (t 8) (c (i I 0)))] [0, 9]) (k (t 9) (q (r [o (S 10) N (m (t 0)), o (S 11) N (.nck (t 10)), o (S 12) N (.fa 1 (t 11)), o N N (.st 1 (t 12) (c (b false)))] []) (q (r [o (S 2) N (m (c (i I 0)))] [2]) .ret)) s)) (q (r [o (S 13) N (m (t 0)), o (S 14) N (.nck (t 13)), o (S 15) N (.fa 0 (t 14)), o (S 16) N (.ld1 (t 15)), o (S 17) N (.ixS (t 16) (c (i I 0))), o (S 18) N (.cvI .i64 (t 17)), o (S 3) N (m (t 18))] [0, 3]) (q (r [o (S 19) N (m (t 0)), o (S 20) N (m (t 0)), o (S 21) N (.nck (t 20)), o (S 22) N (.fa 0 (t 21)), o (S 23) N (.ld1 (t 22)), o (S 24) N (.slS (t 23) (S (c (i I 1))) none), o (S 25) N (.nck (t 19)), o (S 26) N (.fa 0 (t 25)), o N N (.st 1 (t 26) (t 24))] [3]) (q (r [o (S 27) N (m (t 3)), o (S 2) N (m (t 27))] [2]) .ret)))))⟩
theorem ok55 : compF Try.prog 55 hi55 = some ir55 := by kernel_rfl
def hi56 : List Hint := [.keep [0], .keep [0, 3, 4, 5], .keep [0, 3, 4], .keep [3], .keep [2]]
def ir56 : IFun := ⟨1, [.tmp 2], (q (r [o (S 2) N (m (c (i U 0)))] [0]) (q (r [o (S 7) N (m (t 0)), o (S 8) N (.nck (t 7)), o (S 9) N (.fa 0 (t 8)), o (S 10) N (.ld1 (t 9)), y (S 11) N (.fn 54) [(t 10)], o (S 6) N (m (t 11)), o (S 12) N (.ext (t 6) 0), o (S 13) N (.ext (t 6) 1), o (S 14) N (.ext (t 6) 2), o (S 3) N (m (t 12)), o (S 4) N (m (t 13)), o (S 5) N (m (t 14))] [0, 3, 4, 5]) (q (r [o (S 15) N (m (t 0)), o (S 16) N (m (t 0)), o (S 17) N (.nck (t 16)), o (S 18) N (.fa 1 (t 17)), o (S 19) N (.ld1 (t 18)), o (S 20) N (m (t 19)), o (S 21) (S (20, true)) (m (t 5)), o (S 22) N (.pick (t 20) (t 21) (c (b false))), o (S 23) N (.nck (t 15)), o (S 24) N (.fa 1 (t 23)), o N N (.st 1 (t 24) (t 22))] [0, 3, 4]) (q (r [o (S 25) N (m (t 0)), o (S 26) N (m (t 0)), o (S 27) N (.nck (t 26)), o (S 28) N (.fa 0 (t 27)), o (S 29) N (.ld1 (t 28)), o (S 30) N (m (t 4)), o (S 31) N (.slS (t 29) (S (t 30)) none), o (S 32) N (.nck (t 25)), o (S 33) N (.fa 0 (t 32)), o N N (.st 1 (t 33) (t 31))] [3]) (q (r [o (S 34) N (m (t 3)), o (S 2) N (m (t 34))] [2]) .ret)))))⟩
theorem ok56 : compF Try.prog 56 hi56 = some ir56 := by kernel_rfl
def hi57 : List Hint := [.keep [0], .keep [0, 3, 4, 5], .keep [0, 3, 4], .keep [3], .keep [2]]
def ir57 : IFun := ⟨1, [.tmp 2], (q (r [o (S 2) N (m (c (g ⟨#[]⟩)))] [0]) (q (r [o (S 7) N (m (t 0)), o (S 8) N (.nck (t 7)), o (S 9) N (.fa 0 (t 8)), o (S 10) N (.ld1 (t 9)), y (S 11) N (.fn 44) [(t 10)], o (S 6) N (m (t 11)), o (S 12) N (.ext (t 6) 0), o (S 13) N (.ext (t 6) 1), o (S 14) N (.ext (t 6) 2), o (S 3) N (m (t 12)), o (S 4) N (m (t 13)), o (S 5) N (m (t 14))] [0, 3, 4, 5]) (q (r [o (S 15) N (m (t 0)), o (S 16) N (m (t 0)), o (S 17) N (.nck (t 16)), o (S 18) N (.fa 1 (t 17)), o (S 19) N (.ld1 (t 18)), o (S 20) N (m (t 19)), o (S 21) (S (20, true)) (m (t 5)), o (S 22) N (.pick (t 20) (t 21) (c (b false))), o (S 23) N (.nck (t 15)), o (S 24) N (.fa 1 (t 23)), o N N (.st 1 (t 24) (t 22))] [0, 3, 4]) (q (r [o (S 25) N (m (t 0)), o (S 26) N (m (t 0)), o (S 27) N (.nck (t 26)), o (S 28) N (.fa 0 (t 27)), o (S 29) N (.ld1 (t 28)), o (S 30) N (m (t 4)), o (S 31) N (.slS (t 29) (S (t 30)) none), o (S 32) N (.nck (t 25)), o (S 33) N (.fa 0 (t 32)), o N N (.st 1 (t 33) (t 31))] [3]) (q (r [o (S 34) N (m (t 3)), o (S 2) N (m (t 34))] [2]) .ret)))))⟩
theorem ok57 : compF Try.prog 57 hi57 = some ir57 := by kernel_rfl
def hi73 : List Hint := [.keep [0, 1, 4], .keep [1, 4, 10], .keep []]
def ir73 : IFun := ⟨2, [], (q (r [o (S 5) N (m (t 0)), o (S 6) N (.nck (t 5)), o (S 7) N (.fa 0 (t 6)), o (S 8) N (.ld1 (t 7)), o (S 4) N (m (t 8))] [0, 1, 4]) (q (r [o (S 9) N (m (t 0)), y (S 10) N (.fn 76) [(t 9), (c (i I 1)), (c (b true))]] [1, 4, 10]) (k (t 10) (r [o (S 11) N (m (t 1)), o (S 12) N (m (t 4)), o (S 13) N (.ixS (t 12) (c (i I 0))), o (S 14) N (.nck (t 11)), o N N (.st 1 (t 14) (t 13))] []) s)))⟩
theorem ok73 : compF Try.prog 73 hi73 = some ir73 := by kernel_rfl
def hi74 : List Hint := [.keep [0, 1, 4, 5, 6], .keep [1, 4, 19], .keep []]
def ir74 : IFun := ⟨2, [], (q (r [o (S 8) N (m (t 0)), o (S 9) N (.nck (t 8)), o (S 10) N (.fa 0 (t 9)), o (S 11) N (.ld1 (t 10)), y (S 12) N (.fn 35) [(t 11)], o (S 7) N (m (t 12)), o (S 13) N (.ext (t 7) 0), o (S 14) N (.ext (t 7) 1), o (S 15) N (.ext (t 7) 2), o (S 4) N (m (t 13)), o (S 5) N (m (t 14)), o (S 6) N (m (t 15))] [0, 1, 4, 5, 6]) (q (r [o (S 16) N (m (t 0)), o (S 17) N (m (t 5)), o (S 18) N (m (t 6)), y (S 19) N (.fn 76) [(t 16), (t 17), (t 18)]] [1, 4, 19]) (k (t 19) (r [o (S 20) N (m (t 1)), o (S 21) N (m (t 4)), o (S 22) N (.nck (t 20)), o N N (.st 1 (t 22) (t 21))] []) s)))⟩
theorem ok74 : compF Try.prog 74 hi74 = some ir74 := by kernel_rfl
def hi75 : List Hint := [.keep [0, 1, 4, 5, 6], .keep [1, 4, 19], .keep []]
def ir75 : IFun := ⟨2, [], (q (r [o (S 8) N (m (t 0)), o (S 9) N (.nck (t 8)), o (S 10) N (.fa 0 (t 9)), o (S 11) N (.ld1 (t 10)), y (S 12) N (.fn 36) [(t 11)], o (S 7) N (m (t 12)), o (S 13) N (.ext (t 7) 0), o (S 14) N (.ext (t 7) 1), o (S 15) N (.ext (t 7) 2), o (S 4) N (m (t 13)), o (S 5) N (m (t 14)), o (S 6) N (m (t 15))] [0, 1, 4, 5, 6]) (q (r [o (S 16) N (m (t 0)), o (S 17) N (m (t 5)), o (S 18) N (m (t 6)), y (S 19) N (.fn 76) [(t 16), (t 17), (t 18)]] [1, 4, 19]) (k (t 19) (r [o (S 20) N (m (t 1)), o (S 21) N (m (t 4)), o (S 22) N (.nck (t 20)), o N N (.st 1 (t 22) (t 21))] []) s)))⟩
theorem ok75 : compF Try.prog 75 hi75 = some ir75 := by kernel_rfl
def hi76 : List Hint := [.keep [0, 1, 2], .keep [0, 1], .keep [0, 1, 30], .keep [6], .keep [], .keep [6]]
def ir76 : IFun := ⟨3, [.tmp 6], (q (r [o (S 6) N (m (c (b false)))] [0, 1, 2]) (q (q (r [o (S 7) N (m (t 0)), o (S 8) N (m (t 0)), o (S 9) N (.nck (t 8)), o (S 10) N (.fa 1 (t 9)), o (S 11) N (.ld1 (t 10)), o (S 12) N (m (t 11)), o (S 13) (S (12, false)) (m (t 2)), o (S 14) (S (12, false)) (.un .not (t 13)), o (S 15) N (.pick (t 12) (c (b true)) (t 14)), o (S 16) N (m (t 15)), o (S 17) (S (16, false)) (m (t 1)), o (S 18) (S (16, false)) (m (t 0)), o (S 19) (S (16, false)) (.nck (t 18)), o (S 20) (S (16, false)) (.fa 0 (t 19)), o (S 21) (S (16, false)) (.ld1 (t 20)), o (S 22) (S (16, false)) (.lenS (t 21)), o (S 23) (S (16, false)) (.bin .gtr (t 17) (t 22)), o (S 24) N (.pick (t 16) (c (b true)) (t 23)), o (S 25) N (.nck (t 7)), o (S 26) N (.fa 1 (t 25)), o N N (.st 1 (t 26) (t 24))] [0, 1]) (q (r [o (S 27) N (m (t 0)), o (S 28) N (.nck (t 27)), o (S 29) N (.fa 1 (t 28)), o (S 30) N (.ld1 (t 29))] [0, 1, 30]) (k (t 30) (q (r [o (S 6) N (m (c (b false)))] [6]) .ret) s))) (q (r [o (S 31) N (m (t 0)), o (S 32) N (m (t 0)), o (S 33) N (.nck (t 32)), o (S 34) N (.fa 0 (t 33)), o (S 35) N (.ld1 (t 34)), o (S 36) N (m (t 1)), o (S 37) N (.slS (t 35) (S (t 36)) none), o (S 38) N (.nck (t 31)), o (S 39) N (.fa 0 (t 38)), o N N (.st 1 (t 39) (t 37))] []) (q (r [o (S 6) N (m (c (b true)))] [6]) .ret))))⟩
theorem ok76 : compF Try.prog 76 hi76 = some ir76 := by kernel_rfl
def hi77 : List Hint := [.draw [.op 0, .op 1, .op 2, .op 3, .op 4, .op 5, .op 6, .op 7, .opA 8, .op 9, .op 10, .op 11, .op 12] []]
def ir77 : IFun := ⟨2, [], (.draw 13 [o (S 4) N (m (t 0)), o (S 5) N (m (t 0)), o (S 6) N (.nck (t 5)), o (S 7) N (.fa 0 (t 6)), o (S 8) N (.ld1 (t 7)), o (S 9) N (m (t 1)), o (S 10) N (.nck (t 9)), o (S 11) N (.ld1 (t 10)), .opA (some 12) N (.bsl 1 1 [(i B 0)] [(0, 1, (t 11))]) 8, o (S 13) N (.app 1 1 (t 8) (t 12)), o (S 14) N (.nck (t 4)), o (S 15) N (.fa 0 (t 14)), o N N (.st 1 (t 15) (t 13))] [])⟩
theorem ok77 : compF Try.prog 77 hi77 = some ir77 := by kernel_rfl
def hi78 : List Hint := [.draw [.op 0, .op 1, .op 2, .op 3, .op 4, .op 5, .op 6, .op 7, .opA 8, .op 9, .chk 4, .op 10, .op 11, .op 12, .op 13] []]
def ir78 : IFun := ⟨2, [], (.draw 14 [o (S 4) N (m (t 0)), o (S 5) N (m (t 0)), o (S 6) N (.nck (t 5)), o (S 7) N (.fa 0 (t 6)), o (S 8) N (.ld1 (t 7)), o (S 9) N (m (t 1)), o (S 10) N (.nck (t 9)), o (S 11) N (.ld1 (t 10)), .opA (some 12) N (.bsl 1 1 [(i U 0)] [(0, 1, (t 11))]) 8, y (S 13) N (.fn 38) [(t 12)], .chk 8 none (.ld1 (t 7)), o (S 14) N (.app 1 1 (t 8) (t 13)), o (S 15) N (.nck (t 4)), o (S 16) N (.fa 0 (t 15)), o N N (.st 1 (t 16) (t 14))] [])⟩
theorem ok78 : compF Try.prog 78 hi78 = some ir78 := by kernel_rfl
def hi79 : List Hint := [.draw [.op 0, .op 1, .op 2, .op 3, .op 4, .op 5, .op 6, .op 7, .opA 8, .op 9, .chk 4, .op 10, .op 11, .op 12, .op 13] []]
def ir79 : IFun := ⟨2, [], (.draw 14 [o (S 4) N (m (t 0)), o (S 5) N (m (t 0)), o (S 6) N (.nck (t 5)), o (S 7) N (.fa 0 (t 6)), o (S 8) N (.ld1 (t 7)), o (S 9) N (m (t 1)), o (S 10) N (.nck (t 9)), o (S 11) N (.ld1 (t 10)), .opA (some 12) N (.bsl 1 1 [(g ⟨#[]⟩)] [(0, 1, (t 11))]) 8, y (S 13) N (.fn 40) [(t 12)], .chk 8 none (.ld1 (t 7)), o (S 14) N (.app 1 1 (t 8) (t 13)), o (S 15) N (.nck (t 4)), o (S 16) N (.fa 0 (t 15)), o N N (.st 1 (t 16) (t 14))] [])⟩
theorem ok79 : compF Try.prog 79 hi79 = some ir79 := by kernel_rfl
end Go.Proofs.Ytomaijljeacpjaa.IrAll
namespace Go.Proofs.Ytomaijljeacpjaa.IrAll
open Go Go.Proofs.Ytomaijljeacpjaa.Am
def tabC : Nat → Option FD
  | 7 => some (.code ir7)
  | 10 => some (.code ir10)
  | 11 => some (.code ir11)
  | 12 => some (.code ir12)
  | 13 => some (.code ir13)
  | 14 => some (.code ir14)
  | 15 => some (.code ir15)
  | 16 => some (.code ir16)
  | 17 => some (.code ir17)
  | 18 => some (.code ir18)
  | 19 => some (.code ir19)
  | 24 => some (.code ir24)
  | 25 => some (.code ir25)
  | 28 => some (.code ir28)
  | 29 => some (.code ir29)
  | 30 => some (.code ir30)
  | 31 => some (.code ir31)
  | 32 => some (.code ir32)
  | 33 => some (.code ir33)
  | 34 => some (.code ir34)
  | 35 => some (.code ir35)
  | 36 => some (.code ir36)
  | 37 => some (.code ir37)
  | 38 => some (.code ir38)
  | 39 => some (.code ir39)
  | 40 => some (.code ir40)
  | 41 => some (.code ir41)
  | 42 => some (.code ir42)
  | 43 => some (.code ir43)
  | 44 => some (.code ir44)
  | 45 => some (.code ir45)
  | 46 => some (.code ir46)
  | 47 => some (.code ir47)
  | 48 => some (.code ir48)
  | 49 => some (.code ir49)
  | 50 => some (.code ir50)
  | 51 => some (.code ir51)
  | 52 => some (.code ir52)
  | 53 => some (.code ir53)
  | 54 => some (.code ir54)
  | 55 => some (.code ir55)
  | 56 => some (.code ir56)
  | 57 => some (.code ir57)
  | 73 => some (.code ir73)
  | 74 => some (.code ir74)
  | 75 => some (.code ir75)
  | 76 => some (.code ir76)
  | 77 => some (.code ir77)
  | 78 => some (.code ir78)
  | 79 => some (.code ir79)
  | _ => none
theorem tabCOK : TabOK Try.prog tabC := by
  intro f d h
  unfold tabC at h
  split at h
  · cases h; exact ⟨hi7, ok7⟩
  · cases h; exact ⟨hi10, ok10⟩
  · cases h; exact ⟨hi11, ok11⟩
  · cases h; exact ⟨hi12, ok12⟩
  · cases h; exact ⟨hi13, ok13⟩
  · cases h; exact ⟨hi14, ok14⟩
  · cases h; exact ⟨hi15, ok15⟩
  · cases h; exact ⟨hi16, ok16⟩
  · cases h; exact ⟨hi17, ok17⟩
  · cases h; exact ⟨hi18, ok18⟩
  · cases h; exact ⟨hi19, ok19⟩
  · cases h; exact ⟨hi24, ok24⟩
  · cases h; exact ⟨hi25, ok25⟩
  · cases h; exact ⟨hi28, ok28⟩
  · cases h; exact ⟨hi29, ok29⟩
  · cases h; exact ⟨hi30, ok30⟩
  · cases h; exact ⟨hi31, ok31⟩
  · cases h; exact ⟨hi32, ok32⟩
  · cases h; exact ⟨hi33, ok33⟩
  · cases h; exact ⟨hi34, ok34⟩
  · cases h; exact ⟨hi35, ok35⟩
  · cases h; exact ⟨hi36, ok36⟩
  · cases h; exact ⟨hi37, ok37⟩
  · cases h; exact ⟨hi38, ok38⟩
  · cases h; exact ⟨hi39, ok39⟩
  · cases h; exact ⟨hi40, ok40⟩
  · cases h; exact ⟨hi41, ok41⟩
  · cases h; exact ⟨hi42, ok42⟩
  · cases h; exact ⟨hi43, ok43⟩
  · cases h; exact ⟨hi44, ok44⟩
  · cases h; exact ⟨hi45, ok45⟩
  · cases h; exact ⟨hi46, ok46⟩
  · cases h; exact ⟨hi47, ok47⟩
  · cases h; exact ⟨hi48, ok48⟩
  · cases h; exact ⟨hi49, ok49⟩
  · cases h; exact ⟨hi50, ok50⟩
  · cases h; exact ⟨hi51, ok51⟩
  · cases h; exact ⟨hi52, ok52⟩
  · cases h; exact ⟨hi53, ok53⟩
  · cases h; exact ⟨hi54, ok54⟩
  · cases h; exact ⟨hi55, ok55⟩
  · cases h; exact ⟨hi56, ok56⟩
  · cases h; exact ⟨hi57, ok57⟩
  · cases h; exact ⟨hi73, ok73⟩
  · cases h; exact ⟨hi74, ok74⟩
  · cases h; exact ⟨hi75, ok75⟩
  · cases h; exact ⟨hi76, ok76⟩
  · cases h; exact ⟨hi77, ok77⟩
  · cases h; exact ⟨hi78, ok78⟩
  · cases h; exact ⟨hi79, ok79⟩
  · cases h
theorem mixed : Try.prog.follows .mixedOrders = true := by kernel_rfl
theorem dOK : DrawOK Try.prog := drawOK mixed
def isT : Option (Value × H) → Bool
  | some (.bool true, _) => true
  | _ => false
theorem isT_some {x : Option (Value × H)} (h : isT x = true) : ∃ h2, x = some (.bool true, h2) := by
  unfold isT at h
  split at h
  · exact ⟨_, rfl⟩
  · cases h
theorem awakeRan : isT (runE tabC 4000 10 [] ⟨.leaf, 0⟩) = true := by decide +kernel
def gAw : List Value → H → Option (Value × H) := fun us h => if us = [] then some (.bool true, h) else none
theorem sAw : SoundF Try.prog 10 gAw := by
  obtain ⟨h2, hr⟩ := isT_some awakeRan
  exact SoundF.closed dOK tabCOK (v := .bool true) rfl ⟨4000, hr⟩
def tab0 : Nat → Option FD := fun f => if f = 10 then some (.spec gAw) else tabC f
theorem tab0OK : TabOK Try.prog tab0 := by
  intro f d h
  unfold tab0 at h
  split at h
  · rename_i e; subst e; cases h; exact sAw
  · exact tabCOK f d h
theorem awake_run (h : H) : Ran tab0 10 [] h (.bool true) h := Ran.spec (g := gAw) rfl rfl
end Go.Proofs.Ytomaijljeacpjaa.IrAll
namespace Go.Proofs.Ytomaijljeacpjaa.Am
open Go
set_option linter.unusedVariables false
set_option linter.unusedSimpArgs false
abbrev Seg := List (Nat × Blk)
structure Mem (base h : H) (L : List Seg) (R : List Nat) : Prop where
  wf : ∀ n B, h.get n = some B → n < h.next
  nx : base.next ≤ h.next
  sub : ∀ n B, base.get n = some B → h.get n = some B
  no : ∀ n, n < base.next → base.get n = none → h.get n = none
  own : ∀ p ∈ L.flatten, h.get p.1 = some p.2 ∧ base.next ≤ p.1 ∧ base.get p.1 = none
  nd : (L.flatten.map Prod.fst).Nodup
  res : ∀ n ∈ R, base.next ≤ n ∧ n < h.next ∧ h.get n = none
  rnd : R.Nodup
variable {base h h1 h2 h3 : H} {L L' : List Seg} {R : List Nat} {S : Seg}
theorem Mem.start (wf : ∀ n B, h.get n = some B → n < h.next) : Mem h h [] [] :=
  ⟨wf, Nat.le_refl _, fun _ _ e => e, fun _ _ e => e, fun p hp => by simp at hp, by simp, fun n hn => by simp at hn, by simp⟩
theorem Mem.here (M : Mem base h L R) : Mem h h [] [] := .start M.wf
theorem Mem.bare (M : Mem base h L R) : Mem base h L [] := ⟨M.wf, M.nx, M.sub, M.no, M.own, M.nd, fun n hn => by simp at hn, by simp⟩
theorem Mem.trans (M : Mem base h L R) (N : Mem h h2 L' []) : Mem base h2 (L' ++ L) R := by
  refine ⟨N.wf, Nat.le_trans M.nx N.nx, fun n B e => N.sub n B (M.sub n B e), fun n hn e => N.no n (Nat.lt_of_lt_of_le hn M.nx) (M.no n hn e), fun p hp => ?_, ?_, fun n hn => ?_, M.rnd⟩
  · rw [List.flatten_append, List.mem_append] at hp
    rcases hp with hp | hp
    · obtain ⟨a, b, c⟩ := N.own p hp
      refine ⟨a, Nat.le_trans M.nx b, ?_⟩
      cases e : base.get p.1 with
      | none => rfl
      | some B => have := M.wf _ _ (M.sub _ _ e); omega
    · obtain ⟨a, b, c⟩ := M.own p hp
      exact ⟨N.sub _ _ a, b, c⟩
  · rw [List.flatten_append, List.map_append, List.nodup_append]
    refine ⟨N.nd, M.nd, fun a ha b hb => ?_⟩
    obtain ⟨p, hp, rfl⟩ := List.mem_map.1 ha
    obtain ⟨q, hq, rfl⟩ := List.mem_map.1 hb
    have := (N.own p hp).2.1
    have := M.wf _ _ (M.own q hq).1
    omega
  · obtain ⟨a, b, c⟩ := M.res n hn
    exact ⟨a, Nat.lt_of_lt_of_le b N.nx, N.no n b c⟩
theorem Mem.drop (M : Mem base h (S :: L) R) : Mem base h L R :=
  ⟨M.wf, M.nx, M.sub, M.no, fun p hp => M.own p (by simp only [List.flatten_cons, List.mem_append]; exact .inr hp), by have := M.nd; rw [List.flatten_cons, List.map_append, List.nodup_append] at this; exact this.2.1, M.res, M.rnd⟩
theorem Mem.perm {L2 : List Seg} (M : Mem base h L R) (p : L2.flatten.Perm L.flatten) : Mem base h L2 R :=
  ⟨M.wf, M.nx, M.sub, M.no, fun q hq => M.own q (p.mem_iff.1 hq), (p.map Prod.fst).nodup_iff.2 M.nd, M.res, M.rnd⟩
theorem flatten_erase : ∀ {L : List Seg} {i : Nat}, L[i]? = some S → (S :: L.eraseIdx i).flatten.Perm L.flatten := by
  intro L
  induction L with
  | nil => intro i h; simp at h
  | cons T L ih =>
    intro i h
    cases i with
    | zero => simp at h; subst h; exact List.Perm.refl _
    | succ i =>
      simp at h
      have := ih h
      simp only [List.eraseIdx_cons_succ, List.flatten_cons] at this ⊢
      refine (List.Perm.trans ?_ (List.Perm.append_left T this))
      rw [← List.append_assoc, ← List.append_assoc]
      exact List.Perm.append_right _ List.perm_append_comm
theorem Mem.focus (M : Mem base h L R) (i : Nat) (hi : L[i]? = some S) : Mem base h (S :: L.eraseIdx i) R := M.perm (flatten_erase hi)
theorem Mem.join {T : Seg} (M : Mem base h (S :: T :: L) R) : Mem base h ((S ++ T) :: L) R := M.perm (by simp)
theorem Mem.nils (M : Mem base h L R) : Mem base h ([] :: L) R := M.perm (by simp)
theorem mem_flatten {p : Nat × Blk} {i : Nat} (hi : L[i]? = some S) (hp : p ∈ S) : p ∈ L.flatten := List.mem_flatten.2 ⟨S, List.mem_of_getElem? hi, hp⟩
theorem Mem.at {p : Nat} {B : Blk} (M : Mem base h L R) (i : Nat) (hi : L[i]? = some [(p, B)]) : h.get p = some B := (M.own (p, B) (mem_flatten hi (List.mem_singleton.2 rfl))).1
theorem Mem.alloc (M : Mem base h L R) (B : Blk) : Mem base (h.alloc B) ([(h.next, B)] :: L) R := by
  have hn : h.get h.next = none := by
    cases e : h.get h.next with
    | none => rfl
    | some B => have := M.wf _ _ e; omega
  have hb : base.get h.next = none := by
    cases e : base.get h.next with
    | none => rfl
    | some B => rw [M.sub _ _ e] at hn; cases hn
  refine ⟨fun n B' e => ?_, Nat.le_trans M.nx (Nat.le_succ _), fun n B' e => ?_, fun n hn2 e => ?_, fun p hp => ?_, ?_, fun n hn2 => ?_, M.rnd⟩
  · rw [H.get_alloc] at e; show n < h.next + 1
    split at e
    · omega
    · have := M.wf _ _ e; omega
  · exact H.get_old (M.wf _ _ (M.sub _ _ e)) (M.sub _ _ e)
  · rw [H.get_alloc]; have := M.nx
    rw [if_neg (by omega)]; exact M.no n hn2 e
  · rw [List.flatten_cons, List.mem_append] at hp
    rcases hp with hp | hp
    · rw [List.mem_singleton] at hp; subst hp
      exact ⟨H.get_new .., M.nx, hb⟩
    · obtain ⟨a, b, c⟩ := M.own p hp
      exact ⟨H.get_old (M.wf _ _ a) a, b, c⟩
  · rw [List.flatten_cons, List.map_append, List.nodup_append]
    refine ⟨by simp, M.nd, fun a ha b hb => ?_⟩
    simp at ha; subst ha
    obtain ⟨q, hq, rfl⟩ := List.mem_map.1 hb
    have := M.wf _ _ (M.own q hq).1
    omega
  · obtain ⟨a, b, c⟩ := M.res n hn2
    refine ⟨a, Nat.lt_succ_of_lt b, ?_⟩
    rw [H.get_alloc, if_neg (by omega)]; exact c
theorem nodup_reserve {rb : Nat} {ks : List Nat} (h : ks.Nodup) : (ks.map (rb + ·)).Nodup := by
  induction ks with
  | nil => simp
  | cons k ks ih =>
    rw [List.nodup_cons] at h
    rw [List.map_cons, List.nodup_cons]
    refine ⟨fun q => h.1 ?_, ih h.2⟩
    obtain ⟨j, hj, e⟩ := List.mem_map.1 q
    have : j = k := by omega
    subst this; exact hj
theorem Mem.up (M : Mem base h L []) {m : Nat} {ks : List Nat} (hk : (decide (ks.Nodup) && ks.all (fun k => decide (k < m))) = true) : Mem base (h.up m) L (ks.map (h.next + ·)) := by
  rw [Bool.and_eq_true] at hk
  refine ⟨fun n B e => Nat.lt_of_lt_of_le (M.wf n B e) (Nat.le_add_right _ _), Nat.le_trans M.nx (Nat.le_add_right _ _), M.sub, M.no, M.own, M.nd, fun n hn => ?_, nodup_reserve (of_decide_eq_true hk.1)⟩
  obtain ⟨k, hk1, rfl⟩ := List.mem_map.1 hn
  have hlt : k < m := of_decide_eq_true (List.all_eq_true.1 hk.2 k hk1)
  have := M.nx
  refine ⟨by omega, by rw [H.next_up]; omega, ?_⟩
  rw [H.get_up]
  cases e : h.get (h.next + k) with
  | none => rfl
  | some B => have := M.wf _ _ e; omega
theorem Mem.setR (M : Mem base h L R) {n : Nat} (j : Nat) (hj : R[j]? = some n) (B : Blk) : Mem base (h.set n (some B)) ([(n, B)] :: L) (R.eraseIdx j) := by
  have hm : n ∈ R := List.mem_of_getElem? hj
  obtain ⟨r1, r2, r3⟩ := M.res n hm
  have hb : base.get n = none := by
    cases e : base.get n with
    | none => rfl
    | some B => rw [M.sub _ _ e] at r3; cases r3
  refine ⟨fun m B' e => ?_, M.nx, fun m B' e => ?_, fun m hm2 e => ?_, fun p hp => ?_, ?_, fun m hm2 => ?_, M.rnd.sublist (List.eraseIdx_sublist ..)⟩
  · rw [H.get_set] at e; rw [H.next_set]
    split at e
    · rename_i q; subst q; exact r2
    · exact M.wf _ _ e
  · rw [H.get_set_ne _ _ (fun q => by subst q; rw [hb] at e; cases e)]; exact M.sub _ _ e
  · rw [H.get_set_ne _ _ (by omega)]; exact M.no m hm2 e
  · rw [List.flatten_cons, List.mem_append] at hp
    rcases hp with hp | hp
    · rw [List.mem_singleton] at hp; subst hp
      exact ⟨H.get_set_same .., r1, hb⟩
    · obtain ⟨a, b, c⟩ := M.own p hp
      refine ⟨?_, b, c⟩
      rw [H.get_set_ne _ _ (fun q => by rw [q, r3] at a; cases a)]; exact a
  · rw [List.flatten_cons, List.map_append, List.nodup_append]
    refine ⟨by simp, M.nd, fun a ha b hb2 => ?_⟩
    simp at ha; subst ha
    obtain ⟨q, hq, rfl⟩ := List.mem_map.1 hb2
    intro e
    have := (M.own q hq).1
    rw [← e, r3] at this; cases this
  · have hne : m ≠ n := by
      intro e; subst e
      have hlt := (List.getElem?_eq_some_iff.1 hj).1
      have hp := List.getElem?_eq_some_iff.1 hj
      have : (R.eraseIdx j).count m = R.count m - 1 := by
        rw [List.eraseIdx_eq_take_drop_succ]
        have e2 : R = R.take j ++ (m :: R.drop (j + 1)) := by
          rw [← hp.2, List.getElem_cons_drop, List.take_append_drop]
        have e3 : R.count m = (R.take j).count m + (1 + (R.drop (j+1)).count m) := by
          conv => lhs; rw [e2]
          rw [List.count_append, List.count_cons_self]; omega
        rw [List.count_append]; omega
      have h1 : R.count m ≤ 1 := List.nodup_iff_count.1 M.rnd m
      have h2 : 0 < (R.eraseIdx j).count m := List.count_pos_iff.2 hm2
      omega
    obtain ⟨a, b, c⟩ := M.res m ((List.eraseIdx_sublist ..).subset hm2)
    exact ⟨a, b, by rw [H.get_set_ne _ _ hne]; exact c⟩
theorem Mem.set {S1 S2 : Seg} {p : Nat} {B : Blk} (M : Mem base h ((S1 ++ (p, B) :: S2) :: L) R) (B' : Blk) : Mem base (h.set p (some B')) ((S1 ++ (p, B') :: S2) :: L) R := by
  obtain ⟨o1, o2, o3⟩ := M.own (p, B) (by simp)
  have hnd := M.nd
  have eq : ∀ X : Blk, ((S1 ++ (p, X) :: S2) :: L).flatten.map Prod.fst = S1.map Prod.fst ++ p :: (S2.map Prod.fst ++ L.flatten.map Prod.fst) := fun X => by simp
  rw [eq] at hnd
  have hne : ∀ q ∈ S1 ++ S2 ++ L.flatten, q.1 ≠ p := by
    intro q hq e
    rw [List.nodup_append, List.nodup_cons] at hnd
    obtain ⟨d1, ⟨d2, d3⟩, d4⟩ := hnd
    simp only [List.mem_append] at hq
    rcases hq with (hq | hq) | hq
    · exact d4 q.1 (List.mem_map_of_mem hq) p (List.mem_cons_self ..) e
    · exact d2 (by rw [← e]; exact List.mem_append_left _ (List.mem_map_of_mem hq))
    · exact d2 (by rw [← e]; exact List.mem_append_right _ (List.mem_map_of_mem hq))
  refine ⟨fun m X e => ?_, M.nx, fun m X e => ?_, fun m hm e => ?_, fun q hq => ?_, by rw [eq]; exact hnd, fun n hn => ?_, M.rnd⟩
  · rw [H.get_set] at e; rw [H.next_set]
    split at e
    · rename_i q; subst q; exact M.wf _ _ o1
    · exact M.wf _ _ e
  · rw [H.get_set_ne _ _ (fun q => by subst q; rw [o3] at e; cases e)]; exact M.sub _ _ e
  · have : base.next ≤ p := o2
    rw [H.get_set_ne _ _ (by omega)]; exact M.no m hm e
  · simp only [List.flatten_cons, List.mem_append, List.mem_cons] at hq
    have ot : ∀ q, q ∈ S1 ++ S2 ++ L.flatten → (h.set p (some B')).get q.1 = some q.2 ∧ base.next ≤ q.1 ∧ base.get q.1 = none := fun q hq => by
      rw [H.get_set_ne _ _ (hne q hq)]
      refine M.own q ?_
      simp only [List.flatten_cons, List.mem_append, List.mem_cons] at hq ⊢
      rcases hq with (a | a) | a
      · exact .inl (.inl a)
      · exact .inl (.inr (.inr a))
      · exact .inr a
    rcases hq with (a | a | a) | a
    · exact ot q (by simp only [List.mem_append]; exact .inl (.inl a))
    · subst a; exact ⟨H.get_set_same .., o2, o3⟩
    · exact ot q (by simp only [List.mem_append]; exact .inl (.inr a))
    · exact ot q (by simp only [List.mem_append]; exact .inr a)
  · obtain ⟨a, b, c⟩ := M.res n hn
    refine ⟨a, b, ?_⟩
    rw [H.get_set_ne _ _ (fun q => by subst q; rw [c] at o1; cases o1)]; exact c
theorem Mem.free {S1 S2 : Seg} {p : Nat} {B : Blk} (M : Mem base h ((S1 ++ (p, B) :: S2) :: L) R) : Mem base (h.set p none) ((S1 ++ S2) :: L) R := by
  have N := M.set B
  obtain ⟨o1, o2, o3⟩ := M.own (p, B) (by simp)
  have hnd := M.nd
  have eq : ((S1 ++ (p, B) :: S2) :: L).flatten.map Prod.fst = S1.map Prod.fst ++ p :: (S2.map Prod.fst ++ L.flatten.map Prod.fst) := by simp
  rw [eq] at hnd
  have hne : ∀ q ∈ S1 ++ S2 ++ L.flatten, q.1 ≠ p := by
    intro q hq e
    rw [List.nodup_append, List.nodup_cons] at hnd
    obtain ⟨d1, ⟨d2, d3⟩, d4⟩ := hnd
    simp only [List.mem_append] at hq
    rcases hq with (hq | hq) | hq
    · exact d4 q.1 (List.mem_map_of_mem hq) p (List.mem_cons_self ..) e
    · exact d2 (by rw [← e]; exact List.mem_append_left _ (List.mem_map_of_mem hq))
    · exact d2 (by rw [← e]; exact List.mem_append_right _ (List.mem_map_of_mem hq))
  refine ⟨fun m X e => ?_, M.nx, fun m X e => ?_, fun m hm e => ?_, fun q hq => ?_, ?_, fun n hn => ?_, M.rnd⟩
  · rw [H.get_set] at e; rw [H.next_set]
    split at e
    · cases e
    · exact M.wf _ _ e
  · rw [H.get_set_ne _ _ (fun q => by subst q; rw [o3] at e; cases e)]; exact M.sub _ _ e
  · have : base.next ≤ p := o2
    rw [H.get_set_ne _ _ (by omega)]; exact M.no m hm e
  · have hq2 : q ∈ S1 ++ S2 ++ L.flatten := by simpa using hq
    rw [H.get_set_ne _ _ (hne q hq2)]
    refine M.own q ?_
    simp only [List.flatten_cons, List.mem_append, List.mem_cons] at hq2 ⊢
    rcases hq2 with (a | a) | a
    · exact .inl (.inl a)
    · exact .inl (.inr (.inr a))
    · exact .inr a
  · have : ((S1 ++ S2) :: L).flatten.map Prod.fst = S1.map Prod.fst ++ (S2.map Prod.fst ++ L.flatten.map Prod.fst) := by simp
    rw [this]
    rw [List.nodup_append, List.nodup_cons] at hnd
    rw [List.nodup_append]
    exact ⟨hnd.1, hnd.2.1.2, fun a ha b hb => hnd.2.2 a ha b (List.mem_cons_of_mem _ hb)⟩
  · obtain ⟨a, b, c⟩ := M.res n hn
    refine ⟨a, b, ?_⟩
    rw [H.get_set]; split
    · rfl
    · exact c
variable {tab : Nat → Option FD} {Q : Ex → Env → H → Prop} {q : Env → H → Prop} {e e2 : Env}
def Cll (tab : Nat → Option FD) (f : Nat) (us : List Value) (h : H) (P : Value → H → Prop) : Prop := ∃ v h2, Ran tab f us h v h2 ∧ P v h2
def WC (tab : Nat → Option FD) (ic : IC) (e : Env) (h : H) (Q : Ex → Env → H → Prop) : Prop := ∃ x e2 h2, RanC tab ic e h x e2 h2 ∧ Q x e2 h2
def WS (tab : Nat → Option FD) (rb : Nat) (ss : List Step) (e : Env) (h : H) (q : Env → H → Prop) : Prop := ∃ e2 h2, RanS tab rb ss e h e2 h2 ∧ q e2 h2
def thenQ (tab : Nat → Option FD) (b : IC) (Q : Ex → Env → H → Prop) : Ex → Env → H → Prop
  | .norm, e, h => WC tab b e h Q
  | x, e, h => Q x e h
def blockQ (id : Nat) (Q : Ex → Env → H → Prop) : Ex → Env → H → Prop
  | .exit j, e, h => if j = id then Q .norm e h else Q (.exit j) e h
  | x, e, h => Q x e h
def endQ (rs : List RV) (P : Value → H → Prop) : Ex → Env → H → Prop
  | .exit _, _, _ => False
  | _, e, h => ∃ vs, resE rs e h = some vs ∧ P (packE vs) h
theorem Cll.code {f : Nat} {F : IFun} {us : List Value} {P : Value → H → Prop} (ht : tab f = some (.code F)) (hl : us.length = F.np) (w : WC tab F.body (mkEnv 0 us) h (endQ F.rs P)) : Cll tab f us h P := by
  obtain ⟨x, e2, h2, r, k⟩ := w
  cases x with
  | norm => obtain ⟨vs, e, p⟩ := k; exact ⟨_, h2, .codeN ht hl r e, p⟩
  | exit id => exact k.elim
  | ret => obtain ⟨vs, e, p⟩ := k; exact ⟨_, h2, .codeR ht hl r e, p⟩
theorem WC.skip (k : Q .norm e h) : WC tab .skip e h Q := ⟨_, _, _, .skip, k⟩
theorem WC.ret (k : Q .ret e h) : WC tab .ret e h Q := ⟨_, _, _, .ret, k⟩
theorem WC.exit {id : Nat} (k : Q (.exit id) e h) : WC tab (.exit id) e h Q := ⟨_, _, _, .exit, k⟩
theorem WC.seq {a b : IC} (k : WC tab a e h (thenQ tab b Q)) : WC tab (.seq a b) e h Q := by
  obtain ⟨x, e2, h2, r, k⟩ := k
  cases x with
  | norm => obtain ⟨y, e3, h3, r2, k2⟩ := k; exact ⟨_, _, _, .seq r r2, k2⟩
  | exit id => exact ⟨_, _, _, .seqE r, k⟩
  | ret => exact ⟨_, _, _, .seqR r, k⟩
theorem WC.condT {c : Operand} {a b : IC} (hc : ev e c = some (.bool true)) (k : WC tab a e h Q) : WC tab (.cond c a b) e h Q := by
  obtain ⟨x, e2, h2, r, k⟩ := k; exact ⟨x, e2, h2, .condT hc r, k⟩
theorem WC.condF {c : Operand} {a b : IC} (hc : ev e c = some (.bool false)) (k : WC tab b e h Q) : WC tab (.cond c a b) e h Q := by
  obtain ⟨x, e2, h2, r, k⟩ := k; exact ⟨x, e2, h2, .condF hc r, k⟩
theorem WC.block {id : Nat} {b : IC} (k : WC tab b e h (blockQ id Q)) : WC tab (.block id b) e h Q := by
  obtain ⟨x, e2, h2, r, k⟩ := k
  cases x with
  | norm => exact ⟨_, _, _, .blockN r, k⟩
  | ret => exact ⟨_, _, _, .blockR r, k⟩
  | exit j =>
    simp only [blockQ] at k
    split at k
    · rename_i q; subst q; exact ⟨_, _, _, .blockE r, k⟩
    · rename_i q; exact ⟨_, _, _, .blockO q r, k⟩
def loopQ {σ : Type} (keep : List Nat) (E : σ → Env) (I : σ → H → Prop) (μ : σ → Nat) (s : σ) (Q : Ex → Env → H → Prop) : Ex → Env → H → Prop
  | .norm, e, h => ∃ s', norm keep e = E s' ∧ I s' h ∧ μ s' < μ s
  | x, e, h => Q x e h
theorem WC.loop {σ : Type} {keep : List Nat} {b : IC} (E : σ → Env) (I : σ → H → Prop) (μ : σ → Nat) (s0 : σ) (hn : norm keep e = E s0) (hi : I s0 h)
    (step : ∀ s h, I s h → WC tab b (E s) h (loopQ keep E I μ s Q)) : WC tab (.loop keep b) e h Q := by
  generalize hm : μ s0 = m
  induction m using Nat.strongRecOn generalizing s0 e h with
  | _ m ih =>
    obtain ⟨x, e2, h2, r, k⟩ := step s0 h hi
    cases x with
    | norm =>
      obtain ⟨s', k1, k2, k3⟩ := k
      obtain ⟨y, e3, h3, r2, p⟩ := ih (μ s') (by omega) s' k1 k2 rfl
      exact ⟨y, e3, h3, .loop hn r r2, p⟩
    | exit id => exact ⟨_, _, _, .loopE hn r, k⟩
    | ret => exact ⟨_, _, _, .loopR hn r, k⟩
theorem WC.run {ss : List Step} {keep : List Nat} (k : WS tab 0 ss e h (fun e1 h1 => Q .norm (norm keep e1) h1)) : WC tab (.run ss keep) e h Q := by
  obtain ⟨e2, h2, r, k⟩ := k; exact ⟨_, _, _, .run _ r rfl, k⟩
theorem WC.draw {m : Nat} {ss : List Step} {keep : List Nat} (M : Mem base h L []) (ks : List Nat) (hk : (decide (ks.Nodup) && ks.all (fun k => decide (k < m))) = true)
    (k : ∀ rb h1, Mem base h1 L (ks.map (rb + ·)) → WS tab rb ss e h1 (fun e1 h1 => Q .norm (norm keep e1) h1)) : WC tab (.draw m ss keep) e h Q := by
  obtain ⟨e2, h2, r, k⟩ := k h.next (h.up m) (M.up hk); exact ⟨_, _, _, .draw _ r rfl, k⟩
variable {rb : Nat} {ss : List Step} {d : Option Nat} {g : Option (Nat × Bool)}
theorem WS.nil {keep : List Nat} (e2 : Env) (hn : norm keep e = e2) (k : Q .norm e2 h) : WS tab rb [] e h (fun e1 h1 => Q .norm (norm keep e1) h1) := ⟨_, _, .nil, by show Q .norm (norm keep e) h; rw [hn]; exact k⟩
theorem WS.op {i : IOp} {v : Value} (hg : gd e g = some true) (ho : opE i e h none = some (v, h1)) (k : WS tab rb ss (put e d v) h1 q) : WS tab rb (.op d g i :: ss) e h q := by
  obtain ⟨e2, h2, r, p⟩ := k; exact ⟨e2, h2, .op hg ho r, p⟩
theorem WS.opV {i : IOp} {v : Value} (v' : Value) (hg : gd e g = some true) (ho : opE i e h none = some (v, h1)) (hv : v = v') (k : WS tab rb ss (put e d v') h1 q) : WS tab rb (.op d g i :: ss) e h q := by
  subst hv; exact .op hg ho k
theorem WS.off {i : IOp} (hg : gd e g = some false) (k : WS tab rb ss (put e d undef) h q) : WS tab rb (.op d g i :: ss) e h q := by
  obtain ⟨e2, h2, r, p⟩ := k; exact ⟨e2, h2, .off hg r, p⟩
theorem WS.offC {c : CK} {xs : List Operand} (hg : gd e g = some false) (k : WS tab rb ss (put e d undef) h q) : WS tab rb (.call d g c xs :: ss) e h q := by
  obtain ⟨e2, h2, r, p⟩ := k; exact ⟨e2, h2, .offC hg r, p⟩
theorem WS.chkOff {i : IOp} {n : Nat} (hg : gd e g = some false) (k : WS tab rb ss e h q) : WS tab rb (.chk n g i :: ss) e h q := by
  obtain ⟨e2, h2, r, p⟩ := k; exact ⟨e2, h2, .chkOff hg r, p⟩
theorem WS.chk {i : IOp} {n : Nat} {v : Value} (hg : gd e g = some true) (ho : opE i e h none = some (v, h1)) (hl : look e n = some v) (hp : sameV v v = true) (k : WS tab rb ss e h q) : WS tab rb (.chk n g i :: ss) e h q := by
  obtain ⟨e2, h2, r, p⟩ := k; exact ⟨e2, h2, .chk hg ho hl hp r, p⟩
theorem WS.call {c : CK} {xs : List Operand} {vs us : List Value} {f : Nat} {P : Value → H → Prop} (hg : gd e g = some true) (hx : evs e xs = some vs) (hw : whom c e vs = some (f, us)) (hc : Cll tab f us h P) (k : ∀ v h2, P v h2 → WS tab rb ss (put e d v) h2 q) : WS tab rb (.call d g c xs :: ss) e h q := by
  obtain ⟨v, h2, r, p⟩ := hc
  obtain ⟨e3, h3, r2, p2⟩ := k v h2 p
  exact ⟨e3, h3, .call hg hx hw r r2, p2⟩
theorem WS.box {x : Operand} {v : Value} (M : Mem base h L R) (cs : List Value) (hg : gd e g = some true) (hx : ev e x = some v) (hc : v.cells.toList = cs) (ho : cs.all (·.oneCell') = true)
    (k : ∀ p h1, Mem base h1 ([(p, ⟨cs, 0, false⟩)] :: L) R → WS tab rb ss (put e d (.pointer (some ⟨p, 0, none⟩))) h1 q) : WS tab rb (.op d g (.box x) :: ss) e h q :=
  .op hg (op_box h.next hx hc ho rfl) (k _ _ (M.alloc _))
theorem WS.new {z : List Value} (M : Mem base h L R) (hg : gd e g = some true)
    (k : ∀ p h1, Mem base h1 ([(p, ⟨z, 0, false⟩)] :: L) R → WS tab rb ss (put e d (.pointer (some ⟨p, 0, none⟩))) h1 q) : WS tab rb (.op d g (.new z) :: ss) e h q :=
  .op hg (op_new h.next rfl) (k _ _ (M.alloc _))
theorem WS.bsl {es len : Nat} {z : List Value} {ps : List (Nat × Nat × Operand)} {l : List (Nat × Nat × Value)} (M : Mem base h L R) (cs : List Value) (hg : gd e g = some true) (hp : evp e ps = some l) (hf : fillL z l = some cs) (ho : cs.all (·.oneCell') = true)
    (k : ∀ p h1, Mem base h1 ([(p, ⟨cs, es, false⟩)] :: L) R → WS tab rb ss (put e d (.slice (some ⟨p, 0, none⟩) len (2 * len + 1))) h1 q) : WS tab rb (.op d g (.bsl es len z ps) :: ss) e h q :=
  .op hg (op_bsl h.next hp hf ho rfl) (k _ _ (M.alloc _))
theorem WS.newA {n : Nat} {z : List Value} (M : Mem base h L R) (j : Nat) (hj : R[j]? = some (rb + n)) (hg : gd e g = some true)
    (k : ∀ h1, Mem base h1 ([(rb + n, ⟨z, 0, false⟩)] :: L) (R.eraseIdx j) → WS tab rb ss (put e d (.pointer (some ⟨rb + n, 0, none⟩))) h1 q) : WS tab rb (.opA d g (.new z) n :: ss) e h q := by
  obtain ⟨e2, h2, r, p⟩ := k _ (M.setR j hj ⟨z, 0, false⟩)
  exact ⟨e2, h2, .opA hg (by simp only [opE, H.mkb]) r, p⟩
theorem WS.bslA {n es len : Nat} {z : List Value} {ps : List (Nat × Nat × Operand)} {l : List (Nat × Nat × Value)} (M : Mem base h L R) (cs : List Value) (j : Nat) (hj : R[j]? = some (rb + n)) (hg : gd e g = some true) (hp : evp e ps = some l) (hf : fillL z l = some cs) (ho : cs.all (·.oneCell') = true)
    (k : ∀ h1, Mem base h1 ([(rb + n, ⟨cs, es, false⟩)] :: L) (R.eraseIdx j) → WS tab rb ss (put e d (.slice (some ⟨rb + n, 0, none⟩) len (2 * len + 1))) h1 q) : WS tab rb (.opA d g (.bsl es len z ps) n :: ss) e h q := by
  obtain ⟨e2, h2, r, p⟩ := k _ (M.setR j hj ⟨cs, es, false⟩)
  exact ⟨e2, h2, .opA hg (op_bslA (rb + n) hp hf ho rfl) r, p⟩
theorem op_ld {x : Operand} {p off : Nat} {B : Blk} {v : Value} (hb : h.get p = some B) (hx : ev e x = some (.pointer (some ⟨p, off, none⟩))) (hc : B.cells[off]? = some v) : opE (.ld1 x) e h none = some (v, h) := op_ld1 hx (ld_at hb hc)
theorem op_lds {x : Operand} {p off n : Nat} {B : Blk} (cs : List Value) (hb : h.get p = some B) (hx : ev e x = some (.pointer (some ⟨p, off, none⟩))) (hle : off + n ≤ B.cells.length) (hc : (B.cells.drop off).take n = cs) : opE (.ldN n x) e h none = some (.agg cs.toArray, h) := by
  rw [← hc]; exact op_ldN hx (lds_at hb hle)
theorem WS.st {S1 S2 : Seg} {p off n : Nat} {B : Blk} {x y : Operand} {v : Value} (M : Mem base h ((S1 ++ (p, B) :: S2) :: L) R) (vs cs : List Value) (hg : gd e g = some true) (hx : ev e x = some (.pointer (some ⟨p, off, none⟩))) (hy : ev e y = some v) (hv : v.cells.toList = vs) (hn : vs.length = n) (hp : 0 < n) (hr : B.ro = false)
    (hle : off + n ≤ B.cells.length) (ho : vs.all (·.oneCell') = true) (hc : splice B.cells off vs = cs)
    (k : ∀ h1, Mem base h1 ((S1 ++ (p, ⟨cs, B.es, false⟩) :: S2) :: L) R → WS tab rb ss (put e d undef) h1 q) : WS tab rb (.op d g (.st n x y) :: ss) e h q := by
  have hb : h.get p = some B := (M.own (p, B) (by simp)).1
  subst hn
  refine .op hg (op_st hx hy (by rw [hv]) (h2 := h.set p (some ⟨cs, B.es, false⟩)) ?_) (k _ (M.set _))
  rw [hv, ← hc]
  match vs, hp, hle, ho with
  | v :: vs, _, hle, ho => exact sts_at hb hr hle ho
theorem op_ldH {x : Operand} {a : Addr} {v : Value} (hx : ev e x = some (.pointer (some a))) (hl : h.ld a = some v) : opE (.ld1 x) e h none = some (v, h) := op_ld1 hx hl
variable {k : IntKind} {a b : Int} {x y : Operand}
theorem op_bin2 {op : BinOp} {v w z : Value} (hx : ev e x = some v) (hy : ev e y = some w) (hv : binV op v w = some z) : opE (.bin op x y) e h none = some (z, h) := op_bin hx hy hv
theorem vb_t {p : Prop} [Decidable p] (hp : p) : Value.bool (decide p) = Value.bool true := by rw [decide_eq_true hp]
theorem vb_f {p : Prop} [Decidable p] (hp : ¬ p) : Value.bool (decide p) = Value.bool false := by rw [decide_eq_false hp]
theorem WS.lss (hg : gd e g = some true) (hx : ev e x = some (.int k a)) (hy : ev e y = some (.int k b)) (kt : a < b → WS tab rb ss (put e d (.bool true)) h q) (kf : b ≤ a → WS tab rb ss (put e d (.bool false)) h q) : WS tab rb (.op d g (.bin .lss x y) :: ss) e h q := by
  by_cases c : a < b
  · exact .opV _ hg (op_bin2 (z := .bool (decide (a < b))) hx hy (by simp [binV])) (vb_t c) (kt c)
  · exact .opV _ hg (op_bin2 (z := .bool (decide (a < b))) hx hy (by simp [binV])) (vb_f c) (kf (by omega))
theorem WS.leq (hg : gd e g = some true) (hx : ev e x = some (.int k a)) (hy : ev e y = some (.int k b)) (kt : a ≤ b → WS tab rb ss (put e d (.bool true)) h q) (kf : b < a → WS tab rb ss (put e d (.bool false)) h q) : WS tab rb (.op d g (.bin .leq x y) :: ss) e h q := by
  by_cases c : a ≤ b
  · exact .opV _ hg (op_bin2 (z := .bool (decide (a ≤ b))) hx hy (by simp [binV])) (vb_t c) (kt c)
  · exact .opV _ hg (op_bin2 (z := .bool (decide (a ≤ b))) hx hy (by simp [binV])) (vb_f c) (kf (by omega))
theorem WS.gtr (hg : gd e g = some true) (hx : ev e x = some (.int k a)) (hy : ev e y = some (.int k b)) (kt : b < a → WS tab rb ss (put e d (.bool true)) h q) (kf : a ≤ b → WS tab rb ss (put e d (.bool false)) h q) : WS tab rb (.op d g (.bin .gtr x y) :: ss) e h q := by
  by_cases c : a > b
  · exact .opV _ hg (op_bin2 (z := .bool (decide (a > b))) hx hy (by simp [binV])) (vb_t c) (kt c)
  · exact .opV _ hg (op_bin2 (z := .bool (decide (a > b))) hx hy (by simp [binV])) (vb_f c) (kf (by omega))
theorem WS.geq (hg : gd e g = some true) (hx : ev e x = some (.int k a)) (hy : ev e y = some (.int k b)) (kt : b ≤ a → WS tab rb ss (put e d (.bool true)) h q) (kf : a < b → WS tab rb ss (put e d (.bool false)) h q) : WS tab rb (.op d g (.bin .geq x y) :: ss) e h q := by
  by_cases c : a ≥ b
  · exact .opV _ hg (op_bin2 (z := .bool (decide (a ≥ b))) hx hy (by simp [binV])) (vb_t c) (kt c)
  · exact .opV _ hg (op_bin2 (z := .bool (decide (a ≥ b))) hx hy (by simp [binV])) (vb_f c) (kf (by omega))
theorem WS.eql (hg : gd e g = some true) (hx : ev e x = some (.int k a)) (hy : ev e y = some (.int k b)) (kt : a = b → WS tab rb ss (put e d (.bool true)) h q) (kf : a ≠ b → WS tab rb ss (put e d (.bool false)) h q) : WS tab rb (.op d g (.bin .eql x y) :: ss) e h q := by
  by_cases c : a = b
  · exact .opV _ hg (op_bin2 (z := .bool (a == b)) hx hy (by simp [binV])) (by simp [c]) (kt c)
  · exact .opV _ hg (op_bin2 (z := .bool (a == b)) hx hy (by simp [binV])) (by simp [c]) (kf c)
theorem WS.neq (hg : gd e g = some true) (hx : ev e x = some (.int k a)) (hy : ev e y = some (.int k b)) (kt : a ≠ b → WS tab rb ss (put e d (.bool true)) h q) (kf : a = b → WS tab rb ss (put e d (.bool false)) h q) : WS tab rb (.op d g (.bin .neq x y) :: ss) e h q := by
  by_cases c : a = b
  · exact .opV _ hg (op_bin2 (z := .bool (a != b)) hx hy (by simp [binV])) (by simp [c]) (kf c)
  · exact .opV _ hg (op_bin2 (z := .bool (a != b)) hx hy (by simp [binV])) (by simp [c]) (kt c)
def bs (l : List UInt8) : ByteArray := ⟨l.toArray⟩
theorem bs_of (s : ByteArray) : ∃ l, s = bs l := ⟨s.data.toList, by cases s; simp [bs]⟩
theorem bs_size (l : List UInt8) : (bs l).size = l.length := by simp [bs, ByteArray.size]
theorem bs_append (l m : List UInt8) : bs l ++ bs m = bs (l ++ m) := by
  apply ByteArray.ext; simp [bs]
theorem bs_toList_loop (l : List UInt8) : ∀ (k i : Nat) (acc : List UInt8), i + k = l.length → ByteArray.toList.loop (bs l) i acc = acc.reverse ++ l.drop i := by
  intro k
  induction k with
  | zero =>
    intro i acc hi
    unfold ByteArray.toList.loop
    rw [bs_size, if_neg (by omega), List.drop_of_length_le (by omega), List.append_nil]
  | succ k ih =>
    intro i acc hi
    unfold ByteArray.toList.loop
    rw [bs_size, if_pos (by omega), ih (i + 1) _ (by omega), List.reverse_cons, List.append_assoc]
    congr 1
    have hget : (bs l).get! i = l[i] := by
      show (l.toArray)[i]! = l[i]
      simp [getElem!_pos, show i < l.length by omega]
    rw [hget, List.drop_eq_getElem_cons (show i < l.length by omega)]; rfl
theorem bs_toList (l : List UInt8) : (bs l).toList = l := by
  show ByteArray.toList.loop (bs l) 0 [] = l
  rw [bs_toList_loop l l.length 0 [] (by omega)]; simp
theorem bs_extract (l : List UInt8) (i j : Nat) : (bs l).extract i j = bs ((l.take j).drop i) := by
  apply ByteArray.ext; simp [bs, List.drop_take]
theorem bs_get (l : List UInt8) (i : Nat) : (bs l)[i]? = l[i]? := by
  by_cases h : i < l.length
  · rw [List.getElem?_eq_getElem h, getElem?_pos (bs l) i (by rw [bs_size]; exact h)]; simp [bs]; rfl
  · rw [List.getElem?_eq_none (by omega), getElem?_neg (bs l) i (by rw [bs_size]; exact h)]
theorem bs_data (l : List UInt8) : ((bs l).data.map fun b => Value.int .u8 b.toNat).toList = l.map fun b => Value.int .u8 (b.toNat : Int) := by simp [bs]
theorem WS.seql {l m : List UInt8} (hg : gd e g = some true) (hx : ev e x = some (.string (bs l))) (hy : ev e y = some (.string (bs m))) (kt : l = m → WS tab rb ss (put e d (.bool true)) h q) (kf : l ≠ m → WS tab rb ss (put e d (.bool false)) h q) : WS tab rb (.op d g (.bin .eql x y) :: ss) e h q := by
  have hv : binV .eql (.string (bs l)) (.string (bs m)) = some (.bool (l == m)) := by simp only [binV, bs_toList]
  by_cases c : l = m
  · exact .opV _ hg (op_bin2 hx hy hv) (by simp [c]) (kt c)
  · exact .opV _ hg (op_bin2 hx hy hv) (by simp [c]) (kf c)
theorem WS.sneq {l m : List UInt8} (hg : gd e g = some true) (hx : ev e x = some (.string (bs l))) (hy : ev e y = some (.string (bs m))) (kt : l ≠ m → WS tab rb ss (put e d (.bool true)) h q) (kf : l = m → WS tab rb ss (put e d (.bool false)) h q) : WS tab rb (.op d g (.bin .neq x y) :: ss) e h q := by
  have hv : binV .neq (.string (bs l)) (.string (bs m)) = some (.bool !(l == m)) := by simp only [binV, bs_toList]
  by_cases c : l = m
  · exact .opV _ hg (op_bin2 hx hy hv) (by simp [c]) (kf c)
  · exact .opV _ hg (op_bin2 hx hy hv) (by simp [c]) (kt c)
theorem op_sadd {l m : List UInt8} (hx : ev e x = some (.string (bs l))) (hy : ev e y = some (.string (bs m))) (hn : l.length + m.length ≤ 1099511627776) : opE (.bin .add x y) e h none = some (.string (bs (l ++ m)), h) := by
  refine op_bin2 hx hy ?_
  simp only [binV, bs_size]; rw [if_pos hn, bs_append]
theorem op_lenS {l : List UInt8} (hx : ev e x = some (.string (bs l))) : opE (.lenS x) e h none = some (.int .i64 (l.length : Int), h) := by simp only [opE, hx, bs_size]
theorem op_ixS {l : List UInt8} {c : UInt8} (i : Nat) (hx : ev e x = some (.string (bs l))) (hy : ev e y = some (.int k (i : Int))) (hc : l[i]? = some c) : opE (.ixS x y) e h none = some (.int .u8 (c.toNat : Int), h) := by
  simp only [opE, hx, hy]; rw [if_pos (by omega), Int.toNat_natCast, bs_get, hc]
theorem op_slS {l : List UInt8} {lo hi : Option Operand} (a b : Option Nat) (hx : ev e x = some (.string (bs l))) (ha : bnd e lo = some a) (hb : bnd e hi = some b) (h1 : a.getD 0 ≤ b.getD l.length) (h2 : b.getD l.length ≤ l.length) : opE (.slS x lo hi) e h none = some (.string (bs ((l.take (b.getD l.length)).drop (a.getD 0))), h) := by
  simp only [opE, hx, ha, hb, bs_size]; rw [if_pos ⟨h1, h2⟩, bs_extract]
theorem bnd_nat {i : Nat} (hx : ev e x = some (.int k (i : Int))) : bnd e (some x) = some (some i) := by
  simp only [bnd, hx]; rw [if_pos (by omega)]; simp
theorem op_slS0 {l : List UInt8} (i : Nat) (hx : ev e x = some (.string (bs l))) (hy : ev e y = some (.int k (i : Int))) (hi : i ≤ l.length) : opE (.slS x (some y) none) e h none = some (.string (bs (l.drop i)), h) := by
  have := op_slS (h := h) (hi := none) (some i) none hx (bnd_nat hy) rfl (by simpa using hi) (by simp)
  simpa using this
theorem op_slS1 {l : List UInt8} (i : Nat) (hx : ev e x = some (.string (bs l))) (hy : ev e y = some (.int k (i : Int))) (hi : i ≤ l.length) : opE (.slS x none (some y)) e h none = some (.string (bs (l.take i)), h) := by
  have := op_slS (h := h) (lo := none) none (some i) hx rfl (bnd_nat hy) (by simp) (by simpa using hi)
  simpa using this
theorem op_slS2 {l : List UInt8} {z : Operand} {k2 : IntKind} (i j : Nat) (hx : ev e x = some (.string (bs l))) (hy : ev e y = some (.int k (i : Int))) (hz : ev e z = some (.int k2 (j : Int))) (hi : i ≤ j) (hj : j ≤ l.length) : opE (.slS x (some y) (some z)) e h none = some (.string (bs ((l.take j).drop i)), h) := by
  have := op_slS (h := h) (some i) (some j) hx (bnd_nat hy) (bnd_nat hz) (by simpa using hi) (by simpa using hj)
  simpa using this
theorem bytesL_bs : ∀ (l : List UInt8) (s : ByteArray), bytesL (l.map fun b => Value.int .u8 (b.toNat : Int)) s = some (s ++ bs l) := by
  intro l
  induction l with
  | nil => intro s; simp [bytesL, bs]; apply ByteArray.ext; simp
  | cons b l ih =>
    intro s
    simp only [List.map_cons, bytesL]
    rw [ih]
    congr 1
    apply ByteArray.ext
    simp [bs, ByteArray.data_push]
theorem op_cvB {p off n c : Nat} {B : Blk} {l : List UInt8} (hb : h.get p = some B) (hx : ev e x = some (.slice (some ⟨p, off, none⟩) n c)) (hn : l.length = n) (hle : off + n ≤ B.cells.length) (hc : (B.cells.drop off).take n = l.map fun b => Value.int .u8 (b.toNat : Int)) : opE (.cvB x) e h none = some (.string (bs l), h) := by
  simp only [opE, hx]; rw [lds_at hb hle, hc]; simp only [bytesL_bs]
  have : ByteArray.empty ++ bs l = bs l := by apply ByteArray.ext; simp
  simp only [this]
theorem op_iaV2 {p n c es : Nat} {o : Nat} (j : Nat) (hx : ev e x = some (.slice (some ⟨p, o, none⟩) n c)) (hi : ev e y = some (.int k (j : Int))) (hj : j < n) : opE (.iaV es x y) e h none = some (.pointer (some ⟨p, o + j * es, none⟩), h) := op_iaV j hx hi hj
end Go.Proofs.Ytomaijljeacpjaa.Am
namespace Go.Proofs.Ytomaijljeacpjaa.Am
open Go
set_option linter.unusedVariables false
set_option linter.unusedSimpArgs false
variable {base h h1 h2 h3 : H} {L L' : List Seg} {R : List Nat} {S : Seg}
variable {tab : Nat → Option FD} {Q : Ex → Env → H → Prop} {q : Env → H → Prop} {e e2 : Env}
variable {rb : Nat} {ss : List Step} {d : Option Nat} {g : Option (Nat × Bool)}
theorem Mem.name (M : Mem base h L R) : ∃ L', L' = L ∧ Mem base h L' R := ⟨L, rfl, M⟩
theorem Mem.name1 (M : Mem base h (S :: L) R) : ∃ L', L' = L ∧ Mem base h (S :: L') R := ⟨L, rfl, M⟩
theorem Mem.name2 {S2 : Seg} (M : Mem base h (S :: S2 :: L) R) : ∃ L', L' = L ∧ Mem base h (S :: S2 :: L') R := ⟨L, rfl, M⟩
theorem Mem.name3 {S2 S3 : Seg} (M : Mem base h (S :: S2 :: S3 :: L) R) : ∃ L', L' = L ∧ Mem base h (S :: S2 :: S3 :: L') R := ⟨L, rfl, M⟩
theorem Mem.take (M : Mem base h L R) (k : Nat) : Mem base h (L.take k) R := by
  have hs : (L.take k).flatten.Sublist L.flatten := by
    conv => rhs; rw [← List.take_append_drop k L, List.flatten_append]
    exact List.sublist_append_left ..
  exact ⟨M.wf, M.nx, M.sub, M.no, fun p hp => M.own p (hs.subset hp), M.nd.sublist (hs.map _), M.res, M.rnd⟩
theorem WC.env {ic : IC} (e2 : Env) (he : e = e2) (k : WC tab ic e2 h Q) : WC tab ic e h Q := by rw [he]; exact k
theorem res_nil : resE [] e h = some [] := rfl
theorem res_tmp {t : Nat} {rs : List RV} {v : Value} {vs : List Value} (hl : look e t = some v) (k : resE rs e h = some vs) : resE (.tmp t :: rs) e h = some (v :: vs) := by simp only [resE, hl, k]
theorem res_cellN {t p off n : Nat} {rs : List RV} {B : Blk} {vs : List Value} (cs : List Value) (hl : look e t = some (.pointer (some ⟨p, off, none⟩))) (hb : h.get p = some B) (hle : off + n ≤ B.cells.length) (hc : (B.cells.drop off).take n = cs) (k : resE rs e h = some vs) : resE (.cell t (some n) :: rs) e h = some (.agg cs.toArray :: vs) := by
  simp only [resE, hl, lds_at hb hle, hc, k]
theorem WS.st1 {p off n es : Nat} {cells : List Value} {x y : Operand} {v : Value} (M : Mem base h ([(p, ⟨cells, es, false⟩)] :: L) R) (vs cs : List Value) (hg : gd e g = some true) (hx : ev e x = some (.pointer (some ⟨p, off, none⟩))) (hy : ev e y = some v) (hv : v.cells.toList = vs) (hn : vs.length = n) (hp : 0 < n)
    (hle : off + n ≤ cells.length) (ho : vs.all (·.oneCell') = true) (hc : splice cells off vs = cs)
    (k : ∀ h1, Mem base h1 ([(p, ⟨cs, es, false⟩)] :: L) R → WS tab rb ss (put e d undef) h1 q) : WS tab rb (.op d g (.st n x y) :: ss) e h q :=
  WS.st (S1 := []) (S2 := []) M vs cs hg hx hy hv hn hp rfl hle ho hc k
theorem WS.nil' (k : q e h) : WS tab rb [] e h q := ⟨_, _, .nil, k⟩
theorem WC.joinB {ss : List Step} {keep : List Nat} (E : Bool → Env) (L : List Seg) (Pt Pf : Prop) (w : WS tab 0 ss e h (fun e1 h1 => ∃ b, norm keep e1 = E b ∧ Mem base h1 L [] ∧ (b = true → Pt) ∧ (b = false → Pf)))
    (kt : ∀ h1, Mem base h1 L [] → Pt → Q .norm (E true) h1) (kf : ∀ h1, Mem base h1 L [] → Pf → Q .norm (E false) h1) : WC tab (.run ss keep) e h Q := by
  refine .run ?_
  obtain ⟨e2, h2, r, b, k1, k2, k3, k4⟩ := w
  refine ⟨e2, h2, r, ?_⟩
  show Q .norm (norm keep e2) h2
  rw [k1]
  cases b with
  | true => exact kt _ k2 (k3 rfl)
  | false => exact kf _ k2 (k4 rfl)
theorem WS.lssN {x y : Operand} {k : IntKind} {a b : Nat} (hg : gd e g = some true) (hx : ev e x = some (.int k (a : Int))) (hy : ev e y = some (.int k (b : Int))) (kt : a < b → WS tab rb ss (put e d (.bool true)) h q) (kf : b ≤ a → WS tab rb ss (put e d (.bool false)) h q) : WS tab rb (.op d g (.bin .lss x y) :: ss) e h q :=
  .lss hg hx hy (fun c => kt (by omega)) (fun c => kf (by omega))
theorem WS.leqN {x y : Operand} {k : IntKind} {a b : Nat} (hg : gd e g = some true) (hx : ev e x = some (.int k (a : Int))) (hy : ev e y = some (.int k (b : Int))) (kt : a ≤ b → WS tab rb ss (put e d (.bool true)) h q) (kf : b < a → WS tab rb ss (put e d (.bool false)) h q) : WS tab rb (.op d g (.bin .leq x y) :: ss) e h q :=
  .leq hg hx hy (fun c => kt (by omega)) (fun c => kf (by omega))
theorem WS.gtrN {x y : Operand} {k : IntKind} {a b : Nat} (hg : gd e g = some true) (hx : ev e x = some (.int k (a : Int))) (hy : ev e y = some (.int k (b : Int))) (kt : b < a → WS tab rb ss (put e d (.bool true)) h q) (kf : a ≤ b → WS tab rb ss (put e d (.bool false)) h q) : WS tab rb (.op d g (.bin .gtr x y) :: ss) e h q :=
  .gtr hg hx hy (fun c => kt (by omega)) (fun c => kf (by omega))
theorem WS.geqN {x y : Operand} {k : IntKind} {a b : Nat} (hg : gd e g = some true) (hx : ev e x = some (.int k (a : Int))) (hy : ev e y = some (.int k (b : Int))) (kt : b ≤ a → WS tab rb ss (put e d (.bool true)) h q) (kf : a < b → WS tab rb ss (put e d (.bool false)) h q) : WS tab rb (.op d g (.bin .geq x y) :: ss) e h q :=
  .geq hg hx hy (fun c => kt (by omega)) (fun c => kf (by omega))
theorem WS.eqlN {x y : Operand} {k : IntKind} {a b : Nat} (hg : gd e g = some true) (hx : ev e x = some (.int k (a : Int))) (hy : ev e y = some (.int k (b : Int))) (kt : a = b → WS tab rb ss (put e d (.bool true)) h q) (kf : a ≠ b → WS tab rb ss (put e d (.bool false)) h q) : WS tab rb (.op d g (.bin .eql x y) :: ss) e h q :=
  .eql hg hx hy (fun c => kt (by omega)) (fun c => kf (by omega))
theorem WS.neqN {x y : Operand} {k : IntKind} {a b : Nat} (hg : gd e g = some true) (hx : ev e x = some (.int k (a : Int))) (hy : ev e y = some (.int k (b : Int))) (kt : a ≠ b → WS tab rb ss (put e d (.bool true)) h q) (kf : a = b → WS tab rb ss (put e d (.bool false)) h q) : WS tab rb (.op d g (.bin .neq x y) :: ss) e h q :=
  .neq hg hx hy (fun c => kt (by omega)) (fun c => kf (by omega))
theorem wu64 (n : Int) : IntKind.u64.wrap n = n % 18446744073709551616 := by simp [IntKind.wrap, IntKind.bits, IntKind.signed]
theorem cv_u8 {n : Nat} (h : n < 256) : Value.int .u8 (IntKind.u8.wrap (n : Int)) = .int .u8 (n : Int) := by
  congr 1; rw [IntKind.wrap_u8]; omega
theorem cv_u64 {n : Nat} (h : n < 18446744073709551616) : Value.int .u64 (IntKind.u64.wrap (n : Int)) = .int .u64 (n : Int) := by
  congr 1; rw [wu64]; omega
theorem cv_i64 {n : Nat} (h : n < 9223372036854775808) : Value.int .i64 (IntKind.i64.wrap (n : Int)) = .int .i64 (n : Int) := by
  congr 1; rw [IntKind.wrap_i64]; omega
theorem add_i64 {a b : Nat} (h : a + b < 9223372036854775808) : Value.int .i64 (IntKind.i64.wrap ((a : Int) + (b : Int))) = .int .i64 ((a + b : Nat) : Int) := by
  congr 1; rw [IntKind.wrap_i64]; omega
theorem sub_i64 {a b : Nat} (h : b ≤ a ∧ a < 9223372036854775808) : Value.int .i64 (IntKind.i64.wrap ((a : Int) - (b : Int))) = .int .i64 ((a - b : Nat) : Int) := by
  congr 1; rw [IntKind.wrap_i64]; omega
theorem add_u64 {a b : Nat} (h : a + b < 18446744073709551616) : Value.int .u64 (IntKind.u64.wrap ((a : Int) + (b : Int))) = .int .u64 ((a + b : Nat) : Int) := by
  congr 1; rw [wu64]; omega
theorem sub_u64 {a b : Nat} (h : b ≤ a ∧ a < 18446744073709551616) : Value.int .u64 (IntKind.u64.wrap ((a : Int) - (b : Int))) = .int .u64 ((a - b : Nat) : Int) := by
  congr 1; rw [wu64]; omega
theorem op_slA0 {x y : Operand} {p o n es : Nat} {k : IntKind} (i : Nat) (hx : ev e x = some (.pointer (some ⟨p, o, none⟩))) (hy : ev e y = some (.int k (i : Int))) (hi : i ≤ n) : opE (.slA n es x (some y) none none) e h none = some (.slice (some ⟨p, o + i * es, none⟩) (n - i) (2 * (n - i) + 1), h) := by
  simp only [opE, hx, bnd_nat hy]
  show (if _ then _ else _) = _
  rw [if_pos]
  · rfl
  · simp; omega
theorem u8_ofNat {n : Nat} : Value.int .u8 (IntKind.u8.wrap (n : Int)) = .int .u8 ((UInt8.ofNat n).toNat : Int) := by
  congr 1
theorem rem_k {k : IntKind} {a b : Nat} : Value.int k (Int.tmod (a : Int) (b : Int)) = .int k ((a % b : Nat) : Int) := by
  congr 1
theorem quo_u64 {a b : Nat} (h : a < 18446744073709551616) : Value.int .u64 (IntKind.u64.wrap (Int.tdiv (a : Int) (b : Int))) = .int .u64 ((a / b : Nat) : Int) := by
  have h1 : a / b ≤ a := Nat.div_le_self ..
  have h2 : Int.tdiv (a : Int) (b : Int) = ((a / b : Nat) : Int) := rfl
  rw [h2]; exact cv_u64 (by omega)
def At (h : H) (b o : Nat) (cs : List Value) : Prop := ∃ B, h.get b = some B ∧ o + cs.length ≤ B.cells.length ∧ (B.cells.drop o).take cs.length = cs
theorem At.mono {b o : Nat} {cs : List Value} (A : At h b o cs) (hs : ∀ n B, h.get n = some B → h2.get n = some B) : At h2 b o cs := by
  obtain ⟨B, e1, e2, e3⟩ := A; exact ⟨B, hs _ _ e1, e2, e3⟩
theorem At.ld {b o k : Nat} {cs : List Value} {v : Value} (A : At h b o cs) (hc : cs[k]? = some v) : h.ld ⟨b, o + k, none⟩ = some v := by
  obtain ⟨B, e1, e2, e3⟩ := A
  have hk := (List.getElem?_eq_some_iff.1 hc).1
  refine ld_at e1 ?_
  rw [← e3, List.getElem?_take, if_pos hk, List.getElem?_drop] at hc; exact hc
theorem At.ld0 {b o : Nat} {cs : List Value} {v : Value} (A : At h b o cs) (hc : cs[0]? = some v) : h.ld ⟨b, o, none⟩ = some v := A.ld (k := 0) hc
theorem At.lds {b o : Nat} {cs : List Value} (A : At h b o cs) : h.lds ⟨b, o, none⟩ cs.length = some cs := by
  obtain ⟨B, e1, e2, e3⟩ := A; rw [lds_at e1 e2, e3]
theorem op_ldAt {x : Operand} {b o n : Nat} {cs : List Value} (hx : ev e x = some (.pointer (some ⟨b, o, none⟩))) (A : At h b o cs) (hn : cs.length = n) : opE (.ldN n x) e h none = some (.agg cs.toArray, h) := by
  subst hn; exact op_ldN hx A.lds
theorem op_cvBs {x : Operand} {p c n : Nat} {es : Nat} {ro : Bool} {l : List UInt8} (hb : h.get p = some ⟨l.map fun b => Value.int .u8 (b.toNat : Int), es, ro⟩) (hx : ev e x = some (.slice (some ⟨p, 0, none⟩) n c)) (hn : l.length = n) : opE (.cvB x) e h none = some (.string (bs l), h) :=
  op_cvB hb hx hn (by simp; omega) (by subst hn; rw [List.drop_zero, List.take_of_length_le (by simp)])
theorem At.elem {α : Type} {K : Row α} {l : List α} {b o j : Nat} {y : α} (A : At h b o (K.flat l)) (hy : l[j]? = some y) : At h b (o + j * K.n) (K.cells y) := by
  obtain ⟨B, e1, e2, e3⟩ := A
  have hj := (List.getElem?_eq_some_iff.1 hy).1
  have := Nat.mul_le_mul_right K.n (show j + 1 ≤ l.length by omega)
  rw [Nat.add_mul, Nat.one_mul] at this
  rw [K.flat_length] at e2
  refine ⟨B, e1, by rw [K.len]; omega, ?_⟩
  rw [← K.flat_get l j y hy, ← e3, K.flat_length, List.drop_take, List.take_take, List.drop_drop]
  congr 1
  simp; omega
section
variable {α : Type} (K : Row α)
inductive Row.Sl (h : H) : Value → List α → Prop
  | nil : Row.Sl h (.slice none 0 0) []
  | emp (a : Addr) (c : Nat) : Row.Sl h (.slice (some a) 0 c) []
  | row (b o c : Nat) (l : List α) (ha : At h b o (K.flat l)) : Row.Sl h (.slice (some ⟨b, o, none⟩) l.length c) l
variable {K} {V : Value} {l : List α}
theorem Row.Sl.mono (A : K.Sl h V l) (hs : ∀ n B, h.get n = some B → h2.get n = some B) : K.Sl h2 V l := by
  cases A with
  | nil => exact .nil
  | emp a c => exact .emp a c
  | row b o c l ha => exact .row b o c l (ha.mono hs)
theorem Row.Sl.shape (A : K.Sl h V l) : ∃ P c, V = .slice P l.length c := by
  cases A <;> exact ⟨_, _, rfl⟩
theorem op_lenVS {x : Operand} {h0 : H} (A : K.Sl h0 V l) (hx : ev e x = some V) : opE (.lenV x) e h none = some (.int .i64 (l.length : Int), h) := by
  obtain ⟨P, c, rfl⟩ := A.shape
  simp only [opE, hx]
theorem WS.iaVS {x i : Operand} {k : IntKind} {h0 : H} {es : Nat} (A : K.Sl h0 V l) (j : Nat) {y : α} (hy : l[j]? = some y) (hg : gd e g = some true) (hx : ev e x = some V) (hi : ev e i = some (.int k (j : Int))) (hes : es = K.n)
    (w : ∀ b o, At h0 b o (K.cells y) → WS tab rb ss (put e d (.pointer (some ⟨b, o, none⟩))) h q) : WS tab rb (.op d g (.iaV es x i) :: ss) e h q := by
  subst hes
  have hj := (List.getElem?_eq_some_iff.1 hy).1
  cases A with
  | nil => simp at hj
  | emp a c => simp at hj
  | row b o c l ha => exact .op hg (op_iaV2 j hx hi hj) (w _ _ (ha.elem hy))
theorem Row.Sl.own {b c es : Nat} {ro : Bool} (hb : h.get b = some ⟨K.flat l, es, ro⟩) : K.Sl h (.slice (some ⟨b, 0, none⟩) l.length c) l :=
  .row b 0 c l ⟨_, hb, by simp, by simp⟩
variable (K)
inductive Row.Own : Value → List α → Seg → Prop
  | nil : Row.Own (.slice none 0 0) [] []
  | row (p : Nat) (l : List α) (hne : l ≠ []) : Row.Own (.slice (some ⟨p, 0, none⟩) l.length (2 * l.length)) l [(p, ⟨K.flat l, K.n, false⟩)]
structure Row.Src (h : H) (y : Value) (m : List α) : Prop where
  len : srcLen y = some m.length
  cells : srcCells h K.n m.length y = some (K.flat m)
variable {K} {m : List α} {y : Value}
theorem Row.Src.one {b c es : Nat} {ro : Bool} (hb : h.get b = some ⟨K.flat m, es, ro⟩) : K.Src h (.slice (some ⟨b, 0, none⟩) m.length c) m := by
  refine ⟨rfl, ?_⟩
  simp only [srcCells]
  rw [lds_at hb (by rw [K.flat_length]; simp), List.drop_zero, List.take_of_length_le (by rw [K.flat_length]; exact Nat.le_refl _)]
theorem Row.Own.sl {S : Seg} (O : K.Own V l S) (M : ∀ p ∈ S, h.get p.1 = some p.2) : K.Sl h V l := by
  cases O with
  | nil => exact .nil
  | row p l hne => exact .own (M _ (List.mem_singleton.2 rfl))
theorem Mem.own0 (M : Mem base h (S :: L) R) : ∀ p ∈ S, h.get p.1 = some p.2 := fun p hp => (M.own p (by simp only [List.flatten_cons, List.mem_append]; exact .inl hp)).1
theorem Mem.owni (M : Mem base h L R) (i : Nat) (hi : L[i]? = some S) : ∀ p ∈ S, h.get p.1 = some p.2 := fun p hp => (M.own p (mem_flatten hi hp)).1
theorem WS.app {S : Seg} {x z : Operand} {bytes es : Nat} (O : K.Own V l S) (M : Mem base h (S :: L) R) (A : K.Src h y m) (hes : es = K.n) (hb : (l.length + m.length) * bytes ≤ 140737488355328) (hn : l.length + m.length ≤ 1099511627776) (hg : gd e g = some true) (hx : ev e x = some V) (hy : ev e z = some y)
    (k : ∀ V' S' h1, K.Own V' (l ++ m) S' → Mem base h1 (S' :: L) R → WS tab rb ss (put e d V') h1 q) : WS tab rb (.op d g (.app es bytes x z) :: ss) e h q := by
  subst hes
  obtain ⟨a1, a2⟩ := A
  have hall := plain1_one (K.flat_plain m)
  cases O with
  | nil =>
    by_cases c : m = []
    · subst c
      refine .op hg (op_app hx hy (r := (.slice none 0 0, h)) ?_) (k _ [] _ .nil M)
      simp only [appE, a1, a2]; rfl
    · have hm : m.length ≠ 0 := fun e => c (List.eq_nil_of_length_eq_zero e)
      refine .op hg (op_app hx hy (r := (.slice (some ⟨h.next, 0, none⟩) m.length (2 * m.length), h.alloc ⟨K.flat m, K.n, false⟩)) ?_) (k _ _ _ (by rw [List.nil_append]; exact .row h.next m c) (Mem.perm (M.alloc _) (by simp)))
      simp only [appE, a1, a2]
      simp only [List.length_nil, Nat.zero_add] at hb hn
      rw [if_neg hm, if_pos ⟨hb, hn, hall⟩]; rfl
  | row p l hne =>
    have hg2 : h.get p = some ⟨K.flat l, K.n, false⟩ := M.own0 _ (List.mem_singleton.2 rfl)
    by_cases c : m = []
    · subst c
      refine .op hg (op_app hx hy (r := (.slice (some ⟨p, 0, none⟩) l.length (2 * l.length), h)) ?_) (k _ _ _ (by rw [List.append_nil]; exact .row p l hne) M)
      simp only [List.length_nil] at a1 a2
      simp only [appE, a1, a2, Nat.add_zero]
      rw [if_pos (by omega)]; rfl
    · have hm : m.length ≠ 0 := fun e => c (List.eq_nil_of_length_eq_zero e)
      have M2 := (Mem.free (S1 := []) (S2 := []) M).alloc ⟨K.flat (l ++ m), K.n, false⟩
      refine .op hg (op_app hx hy (r := (.slice (some ⟨h.next, 0, none⟩) (l.length + m.length) (2 * (l.length + m.length)), (h.set p none).alloc ⟨K.flat (l ++ m), K.n, false⟩)) ?_) (k _ [(h.next, ⟨K.flat (l ++ m), K.n, false⟩)] _ ?_ (Mem.perm M2 (by simp [H.next_set])))
      · simp only [appE, a1, a2]
        rw [if_neg (by omega), if_pos ⟨hb, hn, hall⟩, lds_at hg2 (by rw [K.flat_length]; simp)]
        simp only
        rw [if_neg (by omega)]
        simp only [hg2]
        rw [if_pos ⟨trivial, trivial, trivial⟩, List.drop_zero, List.take_of_length_le (by rw [K.flat_length]; exact Nat.le_refl _), K.flat_append]
      · have := Row.Own.row (K := K) h.next (l ++ m) (by simp [hne])
        rw [List.length_append] at this; exact this
theorem Row.Own.shape {S : Seg} (O : K.Own V l S) : ∃ P, V = .slice P l.length (2 * l.length) := by cases O <;> exact ⟨_, rfl⟩
end
def KU64 : Row UInt64 := ⟨fun x => [.int .u64 ((x.toNat : Nat) : Int)], 1, fun _ => rfl, by decide, fun _ => rfl⟩
def KU8 : Row UInt8 := ⟨fun x => [.int .u8 ((x.toNat : Nat) : Int)], 1, fun _ => rfl, by decide, fun _ => rfl⟩
def KStr : Row (List UInt8) := ⟨fun x => [.string (bs x)], 1, fun _ => rfl, by decide, fun _ => rfl⟩
theorem KU8_flat (l : List UInt8) : KU8.flat l = l.map fun b => Value.int .u8 ((b.toNat : Nat) : Int) := by
  induction l with
  | nil => rfl
  | cons b l ih => rw [KU8.flat_cons, ih]; rfl
theorem src_string (l : List UInt8) : KU8.Src h (.string (bs l)) l := by
  refine ⟨by simp only [srcLen, bs_size], ?_⟩
  simp only [srcCells]
  show (if (1 : Nat) = 1 then _ else _) = _
  rw [if_pos rfl, bs_extract, KU8_flat, List.take_of_length_le (Nat.le_refl _), List.drop_zero, bs_data]
theorem op_cvBO {x : Operand} {V : Value} {l : List UInt8} {S : Seg} (O : KU8.Own V l S) (M : ∀ p ∈ S, h.get p.1 = some p.2) (hx : ev e x = some V) : opE (.cvB x) e h none = some (.string (bs l), h) := by
  cases O with
  | nil => simp only [opE, hx]; rfl
  | row p l hne =>
    have hb := M _ (List.mem_singleton.2 rfl)
    simp only [KU8_flat] at hb
    exact op_cvBs hb hx rfl
theorem u64_ofNat {n : Nat} (h : n < 18446744073709551616) : Value.int .u64 (n : Int) = .int .u64 ((UInt64.ofNat n).toNat : Int) := by
  rw [UInt64.toNat_ofNat']; congr 2; omega
theorem WS.eqqDn {x y : Operand} {k : EqK} {v w : Value} {p : Prop} [Decidable p] (hg : gd e g = some true) (hx : ev e x = some v) (hy : ev e y = some w) (hc : eqV k v w = some (decide p)) (kt : ¬ p → WS tab rb ss (put e d (.bool true)) h q) (kf : p → WS tab rb ss (put e d (.bool false)) h q) : WS tab rb (.op d g (.eqq true k x y) :: ss) e h q := by
  have ho : opE (.eqq true k x y) e h none = some (.bool (decide p != true), h) := by simp only [opE, hx, hy, hc]
  by_cases c : p
  · exact .opV _ hg ho (by simp [c]) (kf c)
  · exact .opV _ hg ho (by simp [c]) (kt c)
section
variable {α : Type} {K : Row α}
end
def simple1 : Value → Bool
  | .slice _ _ _ => true
  | v => plain1 v
theorem sameL_self : ∀ {l : List Value}, l.all simple1 = true → sameL l l = true := by
  intro l
  induction l with
  | nil => intro _; rfl
  | cons v l ih =>
    intro h
    simp only [List.all_cons, Bool.and_eq_true] at h
    simp only [sameL, ih h.2, Bool.and_true]
    unfold simple1 at h
    obtain ⟨h, _⟩ := h
    split at h
    · rename_i P n c; cases P <;> simp [same1, sameA]
    · exact same1_refl h
theorem same_agg {cs : Array Value} (h : cs.toList.all simple1 = true) : sameV (.agg cs) (.agg cs) = true := sameL_self h
def KNat : Row Nat := ⟨fun n => [.int .u64 (n : Int)], 1, fun _ => rfl, by decide, fun _ => rfl⟩
end Go.Proofs.Ytomaijljeacpjaa.Am
namespace Go.Proofs.Ytomaijljeacpjaa.Wt
open Go Go.Proofs.Ytomaijljeacpjaa.Am Go.Proofs.Ytomaijljeacpjaa.IrAll
open Go.Proofs.Ytomaijljeacpjaa.Am.WS renaming op → C
open List renaming length_append → D
open Go.Proofs.Ytomaijljeacpjaa.Am.WC renaming seq → F
open Go.Proofs.Ytomaijljeacpjaa.Am.WS renaming nil → G
open Go.Proofs.Ytomaijljeacpjaa.Am.WC renaming run → J
open List renaming length_singleton → U
open List renaming length_cons → X
open Go.Proofs.Ytomaijljeacpjaa.Am.WS renaming opV → Y
open List renaming length_drop → AQ
open List renaming length_take → AX
open List renaming length_nil → AZ
open Go.Proofs.Ytomaijljeacpjaa.Am.WS renaming off → BQ
set_option linter.unusedVariables false
set_option linter.unusedSimpArgs false
def hi (n : Nat) : List UInt8 := if h : n = 0 then [] else hi (n / 128) ++ [UInt8.ofNat (128 + n % 128)]
termination_by n
decreasing_by omega
def vb (n : Nat) : List UInt8 := hi (n / 128) ++ [UInt8.ofNat (n % 128)]
theorem hi_zero : hi 0 = [] := by unfold hi; simp
theorem hi_pos {n : Nat} (h : n ≠ 0) : hi n = hi (n / 128) ++ [UInt8.ofNat (128 + n % 128)] := by
  conv => lhs; unfold hi
  rw [dif_neg h]
theorem hi_nil {n : Nat} (h : hi n = []) : n = 0 := by
  by_cases c : n = 0
  · exact c
  · rw [hi_pos c] at h; simp at h
theorem hi_step {n r : Nat} (hr : r < 128) (h : n ≠ 0 ∨ r ≠ 0) : hi (n * 128 + r) = hi n ++ [UInt8.ofNat (128 + r)] := by
  rw [hi_pos (by omega), show (n * 128 + r) / 128 = n by omega, show (n * 128 + r) % 128 = r by omega]
theorem hi_length {k : Nat} : ∀ {n : Nat}, n < 128 ^ k → (hi n).length ≤ k := by
  induction k with
  | zero => intro n h; have : n = 0 := by simpa using h
            subst this; rw [hi_zero]; simp
  | succ k ih =>
    intro n h
    by_cases c : n = 0
    · subst c; rw [hi_zero]; simp
    · rw [hi_pos c, D]
      have : n / 128 < 128 ^ k := by rw [Nat.pow_succ] at h; omega
      have := ih this
      simp; omega
theorem vb_ne (n : Nat) : vb n ≠ [] := by simp [vb]
theorem vb_step {n r : Nat} (hr : r < 128) : vb (n * 128 + r) = hi n ++ [UInt8.ofNat r] := by
  unfold vb; rw [show (n * 128 + r) / 128 = n by omega, show (n * 128 + r) % 128 = r by omega]
theorem vb_len {n : Nat} (h : n < 18446744073709551616) : (vb n).length ≤ 10 := by
  have : (hi (n / 128)).length ≤ 9 := hi_length (by omega)
  simp [vb]; omega
def rv : List UInt8 → Nat → Nat → Option (Nat × Nat)
  | [], _, _ => none
  | c :: s, n, k => if (k = 0 ∧ c.toNat = 128) ∨ 144115188075855872 ≤ n then none else if c.toNat < 128 then some (n * 128 + c.toNat, k + 1) else rv s (n * 128 + (c.toNat - 128)) (k + 1)
def getV (s : List UInt8) : Option (Nat × Nat) := rv s 0 0
def rvN (s : List UInt8) : Nat := match getV s with | some p => p.1 | none => 0
def rvK (s : List UInt8) : Nat := match getV s with | some p => p.2 | none => 0
def rvOK (s : List UInt8) : Bool := (getV s).isSome
theorem ofNat_toNat (c : UInt8) : UInt8.ofNat c.toNat = c := by simp
theorem toNat_ofNat {n : Nat} (h : n < 256) : (UInt8.ofNat n).toNat = n := by
  simp [UInt8.toNat_ofNat']; omega
theorem rv_sound : ∀ (s : List UInt8) (n k m j : Nat) (p : List UInt8), rv s n k = some (m, j) → hi n = p → p.length = k → ∃ t r, s = t ++ r ∧ p ++ t = vb m ∧ j = (p ++ t).length ∧ m < 18446744073709551616 := by
  intro s
  induction s with
  | nil => intro n k m j p h; cases h
  | cons c s ih =>
    intro n k m j p h hp hk
    simp only [rv] at h
    split at h
    · cases h
    · rename_i hc
      have hc2 := c.toNat_lt
      split at h
      · rename_i hl; cases h
        refine ⟨[c], s, rfl, ?_, by simp [hk], by omega⟩
        rw [vb_step hl, ofNat_toNat, hp]
      · rename_i hl
        have hn : n ≠ 0 ∨ c.toNat - 128 ≠ 0 := by
          by_cases c0 : n = 0
          · right; intro c1
            have : p = [] := by rw [← hp, c0, hi_zero]
            exact hc (.inl ⟨by rw [← hk, this]; rfl, by omega⟩)
          · exact .inl c0
        have h2 := hi_step (n := n) (r := c.toNat - 128) (by omega) hn
        rw [show 128 + (c.toNat - 128) = c.toNat by omega, ofNat_toNat, hp] at h2
        obtain ⟨t, r, e1, e2, e3, e4⟩ := ih _ _ _ _ _ h h2 (by simp [hk])
        exact ⟨c :: t, r, by rw [e1]; rfl, by rw [← e2]; simp, by rw [e3]; simp, e4⟩
theorem rv_hi : ∀ (m : Nat) (r : List UInt8), m < 144115188075855872 → rv (hi m ++ r) 0 0 = rv r m (hi m).length := by
  intro m
  induction m using Nat.strongRecOn with
  | _ m ih =>
    intro r hm
    by_cases c : m = 0
    · subst c; rw [hi_zero]; rfl
    · have hx : (UInt8.ofNat (128 + m % 128)).toNat = 128 + m % 128 := toNat_ofNat (by omega)
      rw [hi_pos c, List.append_assoc, ih (m / 128) (by omega) _ (by omega), List.singleton_append]
      simp only [rv]
      rw [if_neg, if_neg (by rw [hx]; omega), hx]
      · rw [show m / 128 * 128 + (128 + m % 128 - 128) = m by omega]; simp
      · rintro (⟨h1, h2⟩ | h2)
        · have : m / 128 = 0 := hi_nil (List.eq_nil_of_length_eq_zero h1)
          rw [hx] at h2; omega
        · omega
theorem getV_vb {n : Nat} (h : n < 18446744073709551616) (r : List UInt8) : getV (vb n ++ r) = some (n, (vb n).length) := by
  unfold getV vb
  have hx : (UInt8.ofNat (n % 128)).toNat = n % 128 := toNat_ofNat (by omega)
  rw [List.append_assoc, rv_hi _ _ (by omega), List.singleton_append]
  simp only [rv]
  rw [if_neg, if_pos (by rw [hx]; omega), hx]
  · rw [show n / 128 * 128 + n % 128 = n by omega]; simp
  · rintro (⟨h1, h2⟩ | h2)
    · rw [hx] at h2; omega
    · omega
theorem getV_some {s : List UInt8} {n k : Nat} (h : getV s = some (n, k)) : s = vb n ++ s.drop k ∧ k = (vb n).length ∧ n < 18446744073709551616 := by
  obtain ⟨t, r, e1, e2, e3, e4⟩ := rv_sound s 0 0 n k [] h hi_zero rfl
  simp only [List.nil_append] at e2 e3
  subst e1
  refine ⟨?_, by rw [e3, e2], e4⟩
  rw [e3, ← e2, List.drop_left]
theorem getV_le {s : List UInt8} {n k : Nat} (h : getV s = some (n, k)) : 1 ≤ k ∧ k ≤ s.length ∧ k ≤ 10 := by
  obtain ⟨e1, e2, e3⟩ := getV_some h
  have h1 : 0 < (vb n).length := List.length_pos_iff.2 (vb_ne n)
  have h2 := congrArg List.length e1
  have h3 := vb_len e3
  simp only [D] at h2; omega
theorem rvK_le (s : List UInt8) : rvK s ≤ s.length ∧ rvK s ≤ 10 := by
  unfold rvK; split
  · rename_i p hp; exact ⟨(getV_le hp).2.1, (getV_le hp).2.2⟩
  · simp
theorem rvN_lt (s : List UInt8) : rvN s < 18446744073709551616 := by
  unfold rvN; split
  · rename_i p hp; exact (getV_some hp).2.2
  · omega
theorem rv_eq_some {s : List UInt8} {n k : Nat} (h : getV s = some (n, k)) : rvN s = n ∧ rvK s = k ∧ rvOK s = true := by simp [rvN, rvK, rvOK, h]
theorem rv_eq_none {s : List UInt8} (h : getV s = none) : rvN s = 0 ∧ rvK s = 0 ∧ rvOK s = false := by simp [rvN, rvK, rvOK, h]
theorem getV_eq (s : List UInt8) : getV s = if rvOK s then some (rvN s, rvK s) else none := by
  unfold rvN rvK rvOK; cases getV s <;> simp
def sb (t : List UInt8) : List UInt8 := vb t.length ++ t
def getS (s : List UInt8) : Option (List UInt8 × Nat) := match getV s with
  | some (n, k) => if n ≤ s.length - k then some ((s.drop k).take n, k + n) else none
  | none => none
def rsT (s : List UInt8) : List UInt8 := match getS s with | some p => p.1 | none => []
def rsK (s : List UInt8) : Nat := match getS s with | some p => p.2 | none => 0
def rsOK (s : List UInt8) : Bool := (getS s).isSome
theorem getS_sb {t : List UInt8} (h : t.length < 18446744073709551616) (r : List UInt8) : getS (sb t ++ r) = some (t, (sb t).length) := by
  unfold getS sb
  rw [List.append_assoc, getV_vb h]
  simp
theorem getS_some {s t : List UInt8} {k : Nat} (h : getS s = some (t, k)) : s = sb t ++ s.drop k ∧ k = (sb t).length ∧ t.length < 18446744073709551616 := by
  unfold getS at h
  split at h
  · rename_i n j hv
    obtain ⟨e1, e2, e3⟩ := getV_some hv
    have hl := congrArg List.length e1
    simp only [D, AQ] at hl
    split at h
    · rename_i hn; cases h
      have hlen : ((s.drop j).take n).length = n := by simp; omega
      refine ⟨?_, by unfold sb; rw [D, hlen, ← e2], by rw [hlen]; exact e3⟩
      unfold sb; rw [hlen, List.append_assoc]
      conv => lhs; rw [e1]
      congr 1
      conv => lhs; rw [← List.take_append_drop n (s.drop j)]
      rw [List.drop_drop]
    · cases h
  · cases h
theorem getS_le {s t : List UInt8} {k : Nat} (h : getS s = some (t, k)) : 1 ≤ k ∧ k ≤ s.length ∧ t.length ≤ k := by
  obtain ⟨e1, e2, e3⟩ := getS_some h
  have h1 : 0 < (vb t.length).length := List.length_pos_iff.2 (vb_ne _)
  have h2 := congrArg List.length e1
  simp only [sb, D] at h2 e2; omega
theorem rsK_le (s : List UInt8) : rsK s ≤ s.length := by
  unfold rsK; split
  · rename_i p hp; exact (getS_le hp).2.1
  · simp
theorem rsT_le (s : List UInt8) : (rsT s).length ≤ s.length := by
  unfold rsT; split
  · rename_i p hp; have := getS_le hp; omega
  · simp
theorem rs_eq_some {s t : List UInt8} {k : Nat} (h : getS s = some (t, k)) : rsT s = t ∧ rsK s = k ∧ rsOK s = true := by simp [rsT, rsK, rsOK, h]
theorem rs_eq_none {s : List UInt8} (h : getS s = none) : rsT s = [] ∧ rsK s = 0 ∧ rsOK s = false := by simp [rsT, rsK, rsOK, h]
theorem getS_eq (s : List UInt8) : getS s = if rsOK s then some (rsT s, rsK s) else none := by
  unfold rsT rsK rsOK; cases getS s <;> simp
theorem sb_len {t : List UInt8} (h : t.length < 18446744073709551616) : (sb t).length ≤ t.length + 10 := by
  have := vb_len h; simp [sb]; omega
theorem bv8 (a : Nat) (h : a < 256) (b : Nat) (hb : b < 256) : IntKind.u8.wrap ((BitVec.ofInt IntKind.u8.bits (a : Int) &&& BitVec.ofInt IntKind.u8.bits (b : Int)).toNat : Nat) = ((a &&& b : Nat) : Int) := by
  have h1 : a &&& b ≤ a := Nat.and_le_left
  have e1 : ((a : Int) % ((2 ^ 8 : Nat) : Int)).toNat = a := by omega
  have e2 : ((b : Int) % ((2 ^ 8 : Nat) : Int)).toNat = b := by omega
  have key : (BitVec.ofInt 8 (a : Int) &&& BitVec.ofInt 8 (b : Int)).toNat = a &&& b := by simp only [BitVec.toNat_and, BitVec.toNat_ofInt]; rw [e1, e2]
  show IntKind.u8.wrap ((BitVec.ofInt 8 (a : Int) &&& BitVec.ofInt 8 (b : Int)).toNat : Int) = _
  rw [key, IntKind.wrap_u8]; omega
theorem and127 (a : Nat) : a &&& 127 = a % 128 := Nat.and_two_pow_sub_one_eq_mod a 7
theorem low_u8 (c : UInt8) : Value.int .u8 (IntKind.u8.wrap ((BitVec.ofInt IntKind.u8.bits (c.toNat : Int) &&& BitVec.ofInt IntKind.u8.bits 127).toNat : Nat)) = .int .u8 ((c.toNat % 128 : Nat) : Int) := by
  have := bv8 c.toNat c.toNat_lt 127 (by omega)
  rw [and127] at this; rw [← this]; rfl
theorem more_all : ∀ a : Fin 256, a.val &&& 128 = if a.val < 128 then 0 else 128 := by decide +kernel
theorem more_u8 (c : UInt8) : Value.int .u8 (IntKind.u8.wrap ((BitVec.ofInt IntKind.u8.bits (c.toNat : Int) &&& BitVec.ofInt IntKind.u8.bits 128).toNat : Nat)) = .int .u8 ((if c.toNat < 128 then 0 else 128 : Nat) : Int) := by
  have h := bv8 c.toNat c.toNat_lt 128 (by omega)
  have h2 := more_all ⟨c.toNat, c.toNat_lt⟩
  simp only at h2
  rw [h2] at h; rw [← h]; rfl
theorem bv64 (a b : Nat) (h : a < 18446744073709551616) (hb : b < 18446744073709551616) : IntKind.u64.wrap ((BitVec.ofInt IntKind.u64.bits (a : Int) &&& BitVec.ofInt IntKind.u64.bits (b : Int)).toNat : Nat) = ((a &&& b : Nat) : Int) := by
  have h1 : a &&& b ≤ a := Nat.and_le_left
  have e1 : ((a : Int) % ((2 ^ 64 : Nat) : Int)).toNat = a := by omega
  have e2 : ((b : Int) % ((2 ^ 64 : Nat) : Int)).toNat = b := by omega
  have key : (BitVec.ofInt 64 (a : Int) &&& BitVec.ofInt 64 (b : Int)).toNat = a &&& b := by simp only [BitVec.toNat_and, BitVec.toNat_ofInt]; rw [e1, e2]
  show IntKind.u64.wrap ((BitVec.ofInt 64 (a : Int) &&& BitVec.ofInt 64 (b : Int)).toNat : Int) = _
  rw [key, wu64]; omega
theorem bvo64 (a b : Nat) (h : a < 18446744073709551616) (hb : b < 18446744073709551616) : IntKind.u64.wrap ((BitVec.ofInt IntKind.u64.bits (a : Int) ||| BitVec.ofInt IntKind.u64.bits (b : Int)).toNat : Nat) = ((a ||| b : Nat) : Int) := by
  have h1 : a ||| b < 2 ^ 64 := Nat.or_lt_two_pow (by omega) (by omega)
  have e1 : ((a : Int) % ((2 ^ 64 : Nat) : Int)).toNat = a := by omega
  have e2 : ((b : Int) % ((2 ^ 64 : Nat) : Int)).toNat = b := by omega
  have key : (BitVec.ofInt 64 (a : Int) ||| BitVec.ofInt 64 (b : Int)).toNat = a ||| b := by simp only [BitVec.toNat_or, BitVec.toNat_ofInt]; rw [e1, e2]
  show IntKind.u64.wrap ((BitVec.ofInt 64 (a : Int) ||| BitVec.ofInt 64 (b : Int)).toNat : Int) = _
  rw [key, wu64]; omega
theorem or_add (n r : Nat) (hr : r < 128) : n * 128 ||| r = n * 128 + r := by
  have := Nat.two_pow_add_eq_or_of_lt (i := 7) (b := r) (by omega) n
  rw [Nat.mul_comm n 128]; exact this.symm
theorem shl7 {n : Nat} (h : n < 144115188075855872) : Value.int .u64 (IntKind.u64.wrap ((n : Int) * 2 ^ (min (Int.toNat 7) IntKind.u64.bits))) = .int .u64 ((n * 128 : Nat) : Int) := by
  congr 1
  have : (2 : Int) ^ (min (Int.toNat 7) IntKind.u64.bits) = 128 := by decide
  rw [this, wu64]; omega
theorem or7 {n r : Nat} (h : n * 128 < 18446744073709551616) (hr : r < 128) : Value.int .u64 (IntKind.u64.wrap ((BitVec.ofInt IntKind.u64.bits ((n * 128 : Nat) : Int) ||| BitVec.ofInt IntKind.u64.bits (r : Int)).toNat : Nat)) = .int .u64 ((n * 128 + r : Nat) : Int) := by
  congr 1; rw [bvo64 _ _ h (by omega), or_add _ _ hr]
theorem fdiv_nat (n k : Nat) : Int.fdiv (n : Int) (k : Int) = ((n / k : Nat) : Int) := by
  rw [Int.fdiv_eq_ediv_of_nonneg _ (by omega)]; rfl
theorem shr57 (n : Nat) : Value.int .u64 (Int.fdiv (n : Int) (2 ^ (min (Int.toNat 57) IntKind.u64.bits))) = .int .u64 ((n / 144115188075855872 : Nat) : Int) := by
  congr 1
  have : (2 : Int) ^ (min (Int.toNat 57) IntKind.u64.bits) = ((144115188075855872 : Nat) : Int) := by decide
  rw [this, fdiv_nat]
theorem shr7 (n : Nat) : Value.int .u64 (Int.fdiv (n : Int) (2 ^ (min (Int.toNat 7) IntKind.u64.bits))) = .int .u64 ((n / 128 : Nat) : Int) := by
  congr 1
  have : (2 : Int) ^ (min (Int.toNat 7) IntKind.u64.bits) = ((128 : Nat) : Int) := by decide
  rw [this, fdiv_nat]
theorem drop_cons {l : List UInt8} {k : Nat} {c : UInt8} (hc : l[k]? = some c) : l.drop k = c :: l.drop (k + 1) := by
  obtain ⟨h1, h2⟩ := List.getElem?_eq_some_iff.1 hc
  rw [List.drop_eq_getElem_cons h1, h2]
def rvV (l : List UInt8) : Value := .tuple #[.int .u64 (rvN l : Int), .int .i64 (rvK l : Int), .bool (rvOK l)]
theorem rvV_some {l : List UInt8} {n k : Nat} (h : getV l = some (n, k)) : rvV l = .tuple #[.int .u64 (n : Int), .int .i64 (k : Int), .bool true] := by
  obtain ⟨e1, e2, e3⟩ := rv_eq_some h; simp only [rvV, e1, e2, e3]
theorem rvV_none {l : List UInt8} (h : getV l = none) : rvV l = .tuple #[.int .u64 0, .int .i64 0, .bool false] := by
  obtain ⟨e1, e2, e3⟩ := rv_eq_none h; simp only [rvV, e1, e2, e3]; rfl
theorem rv_ten {s : List UInt8} {n k : Nat} (hk : 10 ≤ k) (hn : (hi n).length = k) : rv s n k = none := by
  have : 144115188075855872 ≤ n := by
    rcases Nat.lt_or_ge n 144115188075855872 with h | h
    · have := hi_length (k := 9) (n := n) (by omega); omega
    · exact h
  cases s with
  | nil => rfl
  | cons c s => simp only [rv]; rw [if_pos (.inr this)]
theorem len_step {n k c : Nat} (hc : 128 ≤ c) (hc2 : c < 256) (i3 : (hi n).length = k) (hp : ¬(k = 0 ∧ c = 128)) : (hi (n * 128 + c % 128)).length = k + 1 := by
  rw [hi_step (by omega), D, i3]; rfl
  by_cases q : n = 0
  · subst q; rw [hi_zero] at i3; simp at i3; right; omega
  · exact .inl q
theorem more_zero {c : Nat} (h : (if c < 128 then 0 else 128 : Nat) = 0) : c < 128 := by
  by_cases q : c < 128
  · exact q
  · rw [if_neg q] at h; simp at h
theorem more_ne {c : Nat} (h : (if c < 128 then 0 else 128 : Nat) ≠ 0) : 128 ≤ c := by
  by_cases q : c < 128
  · rw [if_pos q] at h; simp at h
  · omega
theorem num_ReadV_ran {h : H} (W : Mem h h [] []) {l : List UInt8} (hl : l.length < 9223372036854775808) : Cll tab0 35 [.string (bs l)] h (fun v h2 => v = rvV l ∧ Mem h h2 [] []) := by
  refine Cll.code rfl rfl ?_
  refine WC.env [(0, _)] rfl ?_
  refine F (J (C rfl rfl (C rfl rfl (C rfl rfl (G [(0, _), (2, _), (3, _)] rfl ?_)))))
  refine F (WC.block ?_)
  obtain ⟨L1, eL3, M2⟩ := Mem.name W.bare
  refine WC.loop (σ := Nat × Nat) (fun ((n, k)) => [(0, (.string (bs l))), (2, (.int .u64 ((n : Nat) : Int))), (3, (.int .i64 ((k : Nat) : Int)))]) (fun ((n, k)) hh => Mem h hh (L1) [] ∧ getV l = rv (l.drop k) n k ∧ k ≤ l.length ∧ (hi n).length = k ∧ n < 18446744073709551616) (fun ((n, k)) => l.length - k) (0, 0) rfl ⟨M2, ?_⟩ ?_
  · exact ⟨rfl, by omega, by rw [hi_zero]; rfl, by omega⟩
  ·rintro ⟨n, k⟩ h4 ⟨M5, ⟨i1, i2, i3, i4⟩⟩
   replace eL3 := eL3.symm; subst eL3
   refine WC.env [(0, _), (2, _), (3, _)] rfl ?_
   refine F (F (J (C rfl rfl (C rfl rfl (C rfl (op_lenS (l := l) rfl) ?_)))))
   refine WS.lssN (a := k) (b := (l).length) rfl rfl rfl (fun e9 => ?_) (fun e9 => ?_)
   ·
    refine C rfl rfl (C rfl rfl ?_)
    refine WS.lssN (a := k) (b := 10) rfl rfl rfl (fun e12 => ?_) (fun e12 => ?_)
    ·
     refine C rfl rfl (G [(0, _), (2, _), (3, _), (13, _)] rfl ?_)
     refine WC.condT rfl (WC.skip (WC.block (F (J (C rfl rfl (C rfl rfl ?_))))))
     obtain ⟨c, hc⟩ : ∃ c, l[k]? = some c := ⟨_, List.getElem?_eq_getElem (show k < l.length by omega)⟩
     have hcl := c.toNat_lt
     rw [drop_cons hc] at i1
     simp only [rv] at i1
     refine C rfl (op_ixS k rfl rfl hc) (C rfl rfl (G [(0, _), (2, _), (3, _), (5, _)] rfl ?_))
     refine F (F ?_)
     obtain ⟨L6, eL8, M7⟩ := Mem.name M5.bare
     refine WC.joinB (base := h) (fun b => [(0, (.string (bs l))), (2, (.int .u64 ((n : Nat) : Int))), (3, (.int .i64 ((k : Nat) : Int))), (5, (.int .u8 (((c).toNat : Nat) : Int))), (27, .bool b)]) L6 (getV l = none) (¬(k = 0 ∧ c.toNat = 128) ∧ n < 144115188075855872) ?_ ?_ ?_
     ·replace eL8 := eL8.symm; subst eL8
      refine C rfl rfl ?_
      refine WS.eqlN (a := k) (b := 0) rfl rfl rfl (fun e18 => ?_) (fun e18 => ?_)
      ·
       refine C rfl rfl (C rfl rfl ?_)
       refine WS.eqlN (a := (c).toNat) (b := 128) rfl rfl rfl (fun e21 => ?_) (fun e21 => ?_)
       ·
        refine C rfl rfl (C rfl rfl (BQ rfl (BQ rfl (BQ rfl (C rfl rfl ?_)))))
        refine WS.nil' ⟨true, rfl, (M7.bare.take 0), fun _ => ?_, fun hh => ?_⟩
        · rw [i1, if_pos (by omega)]
        · cases hh
       ·
        refine C rfl rfl (C rfl rfl (C rfl rfl (Y (.int .u64 ((n / 144115188075855872 : Nat) : Int)) rfl rfl (shr57 n) ?_)))
        refine WS.gtrN (a := (n / 144115188075855872)) (b := 0) rfl rfl rfl (fun e26 => ?_) (fun e26 => ?_)
        ·
         refine C rfl rfl ?_
         refine WS.nil' ⟨true, rfl, (M7.bare.take 0), fun _ => ?_, fun hh => ?_⟩
         · rw [i1, if_pos (by omega)]
         · cases hh
        ·
         refine C rfl rfl ?_
         refine WS.nil' ⟨false, rfl, (M7.bare.take 0), fun hh => ?_, fun _ => ?_⟩
         · cases hh
         · omega
      ·
       refine C rfl rfl (BQ rfl (BQ rfl (C rfl rfl (C rfl rfl (C rfl rfl (Y (.int .u64 ((n / 144115188075855872 : Nat) : Int)) rfl rfl (shr57 n) ?_))))))
       refine WS.gtrN (a := (n / 144115188075855872)) (b := 0) rfl rfl rfl (fun e26 => ?_) (fun e26 => ?_)
       ·
        refine C rfl rfl ?_
        refine WS.nil' ⟨true, rfl, (M7.bare.take 0), fun _ => ?_, fun hh => ?_⟩
        · rw [i1, if_pos (by omega)]
        · cases hh
       ·
        refine C rfl rfl ?_
        refine WS.nil' ⟨false, rfl, (M7.bare.take 0), fun hh => ?_, fun _ => ?_⟩
        · cases hh
        · omega
     ·intro h9 M10 hp27
      replace eL8 := eL8.symm; subst eL8
      refine WC.condT rfl (WC.exit ?_)
      refine F (J (C rfl rfl (C rfl rfl (C rfl rfl (G [(2, _), (3, _), (4, _)] rfl ?_)))))
      refine WC.ret (⟨[_, _, _], (res_tmp rfl (res_tmp rfl (res_tmp rfl res_nil))), ?_⟩)
      exact ⟨by rw [rvV_none hp27]; rfl, M10.bare.take 0⟩
     ·intro h11 M12 hp27
      replace eL8 := eL8.symm; subst eL8
      refine WC.condF rfl (WC.skip (F (J (C rfl rfl (Y (.int .u64 ((n * 128 : Nat) : Int)) rfl rfl (shl7 (by omega)) (C rfl rfl (Y (.int .u8 ((c.toNat % 128 : Nat) : Int)) rfl rfl (low_u8 c) (Y (.int .u64 (((c.toNat % 128) : Nat) : Int)) rfl rfl (cv_u64 (n := (c.toNat % 128)) (by omega)) (Y (.int .u64 ((n * 128 + c.toNat % 128 : Nat) : Int)) rfl rfl (or7 (by omega) (by omega)) (C rfl rfl (G [(0, _), (2, _), (3, _), (5, _)] rfl ?_)))))))))))
      refine F (J (C rfl rfl (Y (.int .i64 (((k + 1) : Nat) : Int)) rfl rfl (add_i64 (a := k) (b := 1) (by omega)) (C rfl rfl (G [(0, _), (2, _), (3, _), (5, _)] rfl ?_)))))
      refine F (J (C rfl rfl (Y (.int .u8 ((if c.toNat < 128 then 0 else 128 : Nat) : Int)) rfl rfl (more_u8 c) ?_)))
      refine WS.eqlN (a := (if c.toNat < 128 then 0 else 128)) (b := 0) rfl rfl rfl (fun e38 => ?_) (fun e38 => ?_)
      ·
       refine G [(0, _), (2, _), (3, _), (38, _)] rfl ?_
       refine WC.condT rfl (F (J (C rfl rfl (C rfl rfl (C rfl rfl (C rfl rfl (C rfl rfl (G [(2, _), (3, _), (4, _)] rfl ?_))))))))
       refine WC.ret (⟨[_, _, _], (res_tmp rfl (res_tmp rfl (res_tmp rfl res_nil))), ?_⟩)
       have hm := more_zero e38
       exact ⟨by rw [rvV_some (n := n * 128 + c.toNat % 128) (k := k + 1) (by rw [i1, if_neg (by omega), if_pos hm, Nat.mod_eq_of_lt hm])]; rfl, M12.bare.take 0⟩
      ·
       refine G [(0, _), (2, _), (3, _), (38, _)] rfl ?_
       refine WC.condF rfl (WC.skip (⟨(n * 128 + c.toNat % 128, k + 1), rfl, ⟨(M12.bare.take 0), ?_⟩, ?_⟩))
       · have hm := more_ne e38; exact ⟨by rw [i1, if_neg (by omega), if_neg (by omega), show c.toNat % 128 = c.toNat - 128 by omega], by omega, len_step hm hcl i3 hp27.1, by omega⟩
       · simp only []; omega
    ·
     refine C rfl rfl (G [(0, _), (2, _), (3, _), (13, _)] rfl ?_)
     refine WC.condF rfl (WC.exit ?_)
     refine F (J (C rfl rfl (C rfl rfl (C rfl rfl (G [(2, _), (3, _), (4, _)] rfl ?_)))))
     refine WC.ret (⟨[_, _, _], (res_tmp rfl (res_tmp rfl (res_tmp rfl res_nil))), ?_⟩)
     exact ⟨by rw [rvV_none (i1.trans (rv_ten (by omega) i3))]; rfl, M5.bare.take 0⟩
   ·
    refine C rfl rfl (BQ rfl (BQ rfl (C rfl rfl (G [(0, _), (2, _), (3, _), (13, _)] rfl ?_))))
    refine WC.condF rfl (WC.exit ?_)
    refine F (J (C rfl rfl (C rfl rfl (C rfl rfl (G [(2, _), (3, _), (4, _)] rfl ?_)))))
    refine WC.ret (⟨[_, _, _], (res_tmp rfl (res_tmp rfl (res_tmp rfl res_nil))), ?_⟩)
    exact ⟨by rw [rvV_none (by rw [i1, List.drop_of_length_le (by omega)]; rfl)]; rfl, M5.bare.take 0⟩
theorem low_u64 {n : Nat} (h : n < 18446744073709551616) : Value.int .u64 (IntKind.u64.wrap ((BitVec.ofInt IntKind.u64.bits (n : Int) &&& BitVec.ofInt IntKind.u64.bits 127).toNat : Nat)) = .int .u64 ((n % 128 : Nat) : Int) := by
  have := bv64 n 127 h (by omega)
  rw [and127] at this; rw [← this]; rfl
theorem or_all : ∀ a : Fin 128, a.val ||| 128 = 128 + a.val := by decide +kernel
theorem or128 {r : Nat} (h : r < 128) : Value.int .u8 (IntKind.u8.wrap ((BitVec.ofInt IntKind.u8.bits ((UInt8.ofNat r).toNat : Int) ||| BitVec.ofInt IntKind.u8.bits 128).toNat : Nat)) = .int .u8 ((UInt8.ofNat (128 + r)).toNat : Int) := by
  rw [toNat_ofNat (by omega), toNat_ofNat (by omega)]
  congr 1
  have e1 : ((r : Int) % ((2 ^ 8 : Nat) : Int)).toNat = r := by omega
  have key : (BitVec.ofInt 8 (r : Int) ||| BitVec.ofInt 8 128).toNat = r ||| 128 := by simp only [BitVec.toNat_or, BitVec.toNat_ofInt]; rw [e1]; rfl
  have h2 := or_all ⟨r, h⟩
  simp only at h2
  show IntKind.u8.wrap ((BitVec.ofInt 8 (r : Int) ||| BitVec.ofInt 8 128).toNat : Int) = _
  rw [key, h2, IntKind.wrap_u8]; omega
theorem op_iaA1 {e : Env} {h : H} {x y : Operand} {p n : Nat} {k : IntKind} (j : Nat) (hx : ev e x = some (.pointer (some ⟨p, 0, none⟩))) (hy : ev e y = some (.int k (j : Int))) (hj : j < n) : opE (.iaA n 1 x y) e h none = some (.pointer (some ⟨p, j, none⟩), h) := by
  simp only [opE, hx, hy]; rw [if_pos ⟨by omega, by omega⟩]; simp
def u8v (b : UInt8) : Value := .int .u8 ((b.toNat : Nat) : Int)
def arr (a : Nat) (t : List UInt8) : List Value := List.replicate a (.int .u8 0) ++ t.map u8v
theorem arr_len (a : Nat) (t : List UInt8) : (arr a t).length = a + t.length := by simp [arr]
theorem arr_set {a : Nat} {t : List UInt8} (c : UInt8) (h : 0 < a) : splice (arr a t) (a - 1) [u8v c] = arr (a - 1) (c :: t) := by
  obtain ⟨b, rfl⟩ : ∃ b, a = b + 1 := ⟨a - 1, by omega⟩
  simp only [splice, arr, Nat.add_sub_cancel, U]
  rw [List.take_append_of_le_length (by simp), List.drop_append_of_le_length (by simp), List.take_replicate, List.drop_replicate]
  simp
theorem src_arr {h : H} {p a n c : Nat} {t : List UInt8} (hb : h.get p = some ⟨arr a t, 0, false⟩) (hn : n = t.length) : KU8.Src h (.slice (some ⟨p, 0 + a * 1, none⟩) n c) t := by
  subst hn
  refine ⟨rfl, ?_⟩
  simp only [srcCells]
  rw [lds_at hb (by rw [arr_len]; show 0 + a * 1 + t.length * 1 ≤ a + t.length; omega)]
  rw [KU8_flat, Nat.zero_add, Nat.mul_one]
  simp only [arr]
  rw [List.drop_left' (by simp), List.take_of_length_le (by simp; show t.length ≤ t.length * 1; omega)]; rfl
theorem flatMap_take_succ {α β : Type} {l : List α} {i : Nat} {y : α} (f : α → List β) (h : l[i]? = some y) : (l.take (i + 1)).flatMap f = (l.take i).flatMap f ++ f y := by
  rw [List.take_add_one, h]; simp
theorem flatMap_take_all {α β : Type} {l : List α} {i : Nat} (f : α → List β) (h : l.length ≤ i) : (l.take i).flatMap f = l.flatMap f := by rw [List.take_of_length_le h]
theorem flatMap_take_le {α β : Type} (l : List α) (i : Nat) (f : α → List β) : ((l.take i).flatMap f).length ≤ (l.flatMap f).length := by
  conv => rhs; rw [← List.take_append_drop i l, List.flatMap_append, D]
  omega
theorem flatMap_vb_len : ∀ (ns : List Nat), (∀ n ∈ ns, n < 18446744073709551616) → (ns.flatMap vb).length ≤ 10 * ns.length := by
  intro ns
  induction ns with
  | nil => intro _; simp
  | cons n ns ih =>
    intro h
    have h1 := vb_len (h n (by simp))
    have h2 := ih fun m hm => h m (by simp [hm])
    simp only [List.flatMap_cons, D, X]; omega
theorem flatMap_sb_len : ∀ (ss : List (List UInt8)), (ss.map List.length).sum + 10 * ss.length ≤ 1099511627776 → (ss.flatMap sb).length ≤ (ss.map List.length).sum + 10 * ss.length := by
  intro ss
  induction ss with
  | nil => intro _; simp
  | cons t ss ih =>
    intro h
    simp only [List.flatMap_cons, D, X, List.map_cons, List.sum_cons] at h ⊢
    have h1 := sb_len (t := t) (by omega)
    have h2 := ih (by omega)
    omega
theorem mem_get {α : Type} {l : List α} {i : Nat} {y : α} (h : l[i]? = some y) : y ∈ l := List.mem_of_getElem? h
set_option maxRecDepth 4000 in
theorem num_V_ran {h : H} (W : Mem h h [] []) {V0 : Value} {ns : List Nat} (A : KNat.Sl h V0 ns) (hn : ∀ n ∈ ns, n < 18446744073709551616) (hl3 : ns.length ≤ 1000000) {r : List UInt8} (hr : ns.flatMap vb = r) : Cll tab0 38 [V0] h (fun v h2 => v = .string (bs r) ∧ Mem h h2 [] []) := by
  have hl := flatMap_vb_len ns hn
  refine Cll.code rfl rfl ?_
  refine WC.env [(0, _)] rfl ?_
  refine F (J (C rfl rfl (G [(0, _)] rfl ?_)))
  refine F (J (C rfl rfl (G [(0, _), (3, _)] rfl ?_)))
  refine F (F (J (C rfl rfl (C rfl (op_lenVS A rfl) (C rfl rfl (G [(3, _), (8, _), (9, _), (10, _)] rfl ?_))))))
  refine WC.block ?_
  obtain ⟨L1, eL3, M2⟩ := Mem.name1 ((W.bare).nils)
  refine WC.loop (σ := Value × Seg × Nat) (fun ((out, S, i)) => [(3, out), (8, V0), (9, (.int .i64 (((ns).length : Nat) : Int))), (10, (.int .i64 ((i : Nat) : Int)))]) (fun ((out, S, i)) hh => Mem h hh (S :: L1) [] ∧ KU8.Own out ((ns.take i).flatMap vb) S ∧ i ≤ ns.length) (fun ((out, S, i)) => ns.length - i) (.slice none 0 0, [], 0) rfl ⟨M2, ?_⟩ ?_
  · exact ⟨.nil, by omega⟩
  ·rintro ⟨out, S, i⟩ h4 ⟨M5, ⟨hO, hi1⟩⟩
   replace eL3 := eL3.symm; subst eL3
   refine WC.env [(3, _), (8, _), (9, _), (10, _)] rfl ?_
   refine F (J (WS.lssN (a := i) (b := (ns).length) rfl rfl rfl (fun e11 => ?_) (fun e11 => ?_)))
   ·
    refine G [(3, _), (8, _), (9, _), (10, _), (11, _)] rfl ?_
    refine F (WC.condT rfl (WC.skip (F (WC.block (F (J ?_))))))
    obtain ⟨x, hy⟩ : ∃ x, ns[i]? = some x := ⟨_, List.getElem?_eq_getElem (show i < ns.length by omega)⟩
    have hx64 := hn x (mem_get hy)
    have hfs := flatMap_take_succ vb hy
    have hfl := flatMap_take_le ns (i + 1) vb
    have hvl := vb_len hx64
    refine WS.iaVS A i hy rfl rfl rfl rfl ?_
    intro bx ox hx
    refine C rfl (op_ldH rfl (At.ld0 (hx.mono M5.sub) rfl)) (C rfl rfl (G [(3, _), (5, _), (8, _), (9, _), (10, _)] rfl ?_))
    refine F (J (WS.new M5 rfl ?_))
    intro p6 h7 M8
    refine G [(3, _), (5, _), (6, _), (8, _), (9, _), (10, _)] rfl ?_
    refine F (J (C rfl rfl (G [(3, _), (5, _), (6, _), (7, _), (8, _), (9, _), (10, _)] rfl ?_)))
    refine F (J (C rfl rfl (C rfl rfl (Y (.int .u64 ((x % 128 : Nat) : Int)) rfl rfl (low_u64 hx64) (Y (.int .u8 ((UInt8.ofNat (x % 128)).toNat : Int)) rfl rfl u8_ofNat (C rfl rfl ?_))))))
    refine WS.st1 (M8.focus 0 rfl) [_] [_, _, _, _, _, _, _, _, _, _] rfl rfl rfl rfl rfl (Nat.le_of_ble_eq_true rfl) (Nat.le_of_ble_eq_true rfl) rfl rfl ?_
    intro h9 M10
    replace M10 : Mem _ _ ([(p6, _)] :: S :: []) _ := M10
    refine G [(3, _), (5, _), (6, _), (7, _), (8, _), (9, _), (10, _)] rfl ?_
    refine F (F (J (C rfl rfl (Y (.int .u64 ((x / 128 : Nat) : Int)) rfl rfl (shr7 x) (C rfl rfl (G [(3, _), (5, _), (6, _), (7, _), (8, _), (9, _), (10, _)] rfl ?_))))))
    refine WC.block ?_
    obtain ⟨L11, eL13, M12⟩ := Mem.name1 (M10.bare.focus 0 rfl)
    refine WC.loop (σ := Nat × Nat × List UInt8) (fun ((n, a, t)) => [(3, out), (5, (.int .u64 ((n : Nat) : Int))), (6, (.pointer (some ⟨p6, 0, none⟩))), (7, (.int .i64 ((a : Nat) : Int))), (8, V0), (9, (.int .i64 (((ns).length : Nat) : Int))), (10, (.int .i64 ((i : Nat) : Int)))]) (fun ((n, a, t)) hh => Mem h hh ([(p6, ⟨arr a t, 0, false⟩)] :: L11) [] ∧ vb x = hi n ++ t ∧ a + t.length = 10 ∧ (hi n).length ≤ a ∧ n < 18446744073709551616) (fun ((n, a, t)) => n) (x / 128, 9, [UInt8.ofNat (x % 128)]) rfl ⟨(by exact M12), ?_⟩ ?_
    · exact ⟨rfl, by simp, hi_length (k := 9) (by omega), by omega⟩
    ·rintro ⟨n, a, t⟩ h14 ⟨M15, ⟨he, ht, hh, hn64⟩⟩
     replace eL13 := eL13.symm; subst eL13
     refine WC.env [(3, _), (5, _), (6, _), (7, _), (8, _), (9, _), (10, _)] rfl ?_
     refine F (F (J (C rfl rfl ?_)))
     refine WS.gtrN (a := n) (b := 0) rfl rfl rfl (fun e22 => ?_) (fun e22 => ?_)
     ·
      refine G [(3, _), (5, _), (6, _), (7, _), (8, _), (9, _), (10, _), (22, _)] rfl ?_
      refine WC.condT rfl (WC.skip (F (WC.block (F (J ?_)))))
      have hpos : 1 ≤ a := by rw [hi_pos (by omega)] at hh; simp at hh; omega
      refine C rfl rfl (Y (.int .i64 (((a - 1) : Nat) : Int)) rfl rfl (sub_i64 (a := a) (b := 1) (by omega)) (C rfl rfl (G [(3, _), (5, _), (6, _), (7, _), (8, _), (9, _), (10, _)] rfl ?_)))
      refine J (C rfl rfl (C rfl rfl (Y (.int .u64 ((n % 128 : Nat) : Int)) rfl rfl (low_u64 (by omega)) (Y (.int .u8 ((UInt8.ofNat (n % 128)).toNat : Int)) rfl rfl u8_ofNat (Y (.int .u8 ((UInt8.ofNat (128 + n % 128)).toNat : Int)) rfl rfl (or128 (by omega)) (C rfl (op_iaA1 (a - 1) rfl rfl (by omega)) ?_))))))
      refine WS.st1 (M15.focus 0 rfl) [_] (arr (a - 1) (UInt8.ofNat (128 + n % 128) :: t)) rfl rfl rfl rfl rfl (Nat.le_of_ble_eq_true rfl) (by simp only [arr_len, U]; omega) rfl (by rw [← arr_set _ (by omega)]; rfl) ?_
      intro h16 M17
      refine G [(3, _), (5, _), (6, _), (7, _), (8, _), (9, _), (10, _)] rfl ?_
      refine J (C rfl rfl (Y (.int .u64 ((n / 128 : Nat) : Int)) rfl rfl (shr7 n) (C rfl rfl (G [(3, _), (5, _), (6, _), (7, _), (8, _), (9, _), (10, _)] rfl ?_))))
      refine ⟨(n / 128, a - 1, UInt8.ofNat (128 + n % 128) :: t), rfl, ⟨(((M17.bare.focus 1 rfl).focus 1 rfl).take 2), ?_⟩, ?_⟩
      · exact ⟨by rw [he, hi_pos (by omega)]; simp, by simp; omega, by rw [hi_pos (by omega)] at hh; simp at hh; omega, by omega⟩
      · simp only []; omega
     ·
      refine G [(3, _), (5, _), (6, _), (7, _), (8, _), (9, _), (10, _), (22, _)] rfl ?_
      refine WC.condF rfl (WC.exit ?_)
      refine J ?_
      have hnil : n = 0 := by omega
      have htl : t.length = (vb x).length := by rw [he, hnil, hi_zero]; rfl
      have hfs2 := congrArg List.length hfs
      rw [D] at hfs2
      refine C rfl rfl (C rfl rfl (C rfl (op_slA0 a rfl rfl (by omega)) ?_))
      refine WS.app (l := (ns.take i).flatMap vb) (m := t) (hO) (M15.focus 1 rfl) (src_arr (M15.at 0 rfl) (by omega)) rfl (by omega) (by omega) rfl rfl rfl ?_
      intro V18 S19 h20 O21 M22
      replace O21 : Row.Own KU8 V18 ((ns.take (i + 1)).flatMap vb) S19 := by rw [hfs, he, hnil, hi_zero]; exact O21
      obtain ⟨P23, rfl⟩ := Row.Own.shape O21
      refine C rfl rfl (G [(3, _), (8, _), (9, _), (10, _)] rfl ?_)
      refine J (Y (.int .i64 (((i + 1) : Nat) : Int)) rfl rfl (add_i64 (a := i) (b := 1) (by omega)) (C rfl rfl (G [(3, _), (8, _), (9, _), (10, _)] rfl ?_)))
      refine ⟨((.slice P23 ((ns.take (i + 1)).flatMap vb).length (2 * ((ns.take (i + 1)).flatMap vb).length)), S19, i + 1), rfl, ⟨((M22.bare.focus 0 rfl).take 1), ?_⟩, ?_⟩
      · exact ⟨by assumption, by omega⟩
      · simp only [] at *; omega
   ·
    refine G [(3, _), (8, _), (9, _), (10, _), (11, _)] rfl ?_
    refine F (WC.condF rfl (WC.exit ?_))
    refine F (J (C rfl rfl (C rfl (op_cvBO hO (Mem.owni M5 0 rfl) rfl) (C rfl rfl (G [(2, _)] rfl ?_)))))
    refine WC.ret (⟨[_], (res_tmp rfl res_nil), ?_⟩)
    exact ⟨by rw [← hr, ← flatMap_take_all (l := ns) (i := i) vb (by omega)]; rfl, M5.bare.take 0⟩
theorem flatMap_part {α β : Type} {l : List α} {i : Nat} {y : α} (f : α → List β) (h : l[i]? = some y) : ((l.take i).flatMap f).length + (f y).length ≤ (l.flatMap f).length := by
  have := flatMap_take_le l (i + 1) f
  rw [flatMap_take_succ f h, D] at this; exact this
set_option maxRecDepth 4000 in
theorem num_S_ran {h : H} (W : Mem h h [] []) {V0 : Value} {ss : List (List UInt8)} (A : KStr.Sl h V0 ss) (hl3 : (ss.map List.length).sum + 10 * ss.length ≤ 1099511627776) {r : List UInt8} (hr : ss.flatMap sb = r) : Cll tab0 40 [V0] h (fun v h2 => v = .string (bs r) ∧ Mem h h2 [] []) := by
  have hl := flatMap_sb_len ss hl3
  refine Cll.code rfl rfl ?_
  refine WC.env [(0, _)] rfl ?_
  refine F (J (C rfl rfl (G [(0, _)] rfl ?_)))
  refine F (J (C rfl rfl (G [(0, _), (3, _)] rfl ?_)))
  refine F (F (J (C rfl rfl (C rfl (op_lenVS A rfl) (C rfl rfl (G [(3, _), (6, _), (7, _), (8, _)] rfl ?_))))))
  refine WC.block ?_
  obtain ⟨L1, eL3, M2⟩ := Mem.name W.bare
  refine WC.loop (σ := List UInt8 × Nat) (fun ((out, i)) => [(3, (.string (bs out))), (6, V0), (7, (.int .i64 (((ss).length : Nat) : Int))), (8, (.int .i64 ((i : Nat) : Int)))]) (fun ((out, i)) hh => Mem h hh (L1) [] ∧ out = (ss.take i).flatMap sb ∧ i ≤ ss.length) (fun ((out, i)) => ss.length - i) ([], 0) rfl ⟨M2, ?_⟩ ?_
  · exact ⟨rfl, by omega⟩
  ·rintro ⟨out, i⟩ h4 ⟨M5, ⟨hO, hi1⟩⟩
   replace eL3 := eL3.symm; subst eL3
   refine WC.env [(3, _), (6, _), (7, _), (8, _)] rfl ?_
   refine F (J (WS.lssN (a := i) (b := (ss).length) rfl rfl rfl (fun e9 => ?_) (fun e9 => ?_)))
   ·
    refine G [(3, _), (6, _), (7, _), (8, _), (9, _)] rfl ?_
    refine F (WC.condT rfl (WC.skip (F (WC.block (F (J ?_))))))
    obtain ⟨x, hy⟩ : ∃ x, ss[i]? = some x := ⟨_, List.getElem?_eq_getElem (show i < ss.length by omega)⟩
    have hfp := flatMap_part sb hy
    have hsl : (sb x).length = (vb x.length).length + x.length := by simp [sb]
    refine WS.iaVS A i hy rfl rfl rfl rfl ?_
    intro bx ox hx
    refine C rfl (op_ldH rfl (At.ld0 (hx.mono M5.sub) rfl)) (C rfl rfl (G [(3, _), (5, _), (6, _), (7, _), (8, _)] rfl ?_))
    refine J (C rfl rfl (C rfl rfl (C rfl (op_lenS (l := x) rfl) (Y (.int .u64 (((x).length : Nat) : Int)) rfl rfl (cv_u64 (n := (x).length) (by omega)) ?_))))
    refine WS.bsl M5 [_] rfl rfl rfl rfl ?_
    intro p6 h7 M8
    refine WS.call rfl rfl rfl (num_V_ran M8.here (Row.Sl.own (K := KNat) (l := [(x).length]) (M8.at 0 rfl)) (by intro n hn; simp only [List.mem_cons, List.mem_nil_iff, or_false] at hn; omega) (by simp) (r := (vb ((x).length))) (by simp [List.flatMap])) ?_
    rintro _ h9 ⟨rfl, N10⟩
    have M11 := M8.trans N10
    refine C rfl rfl (C rfl (op_sadd (l := (vb ((x).length))) (m := x) rfl rfl (by have := congrArg List.length hO; (try simp only [D]); omega)) (C rfl (op_sadd (l := out) (m := ((vb ((x).length)) ++ x)) rfl rfl (by have := congrArg List.length hO; (try simp only [D]); omega)) (C rfl rfl (G [(3, _), (6, _), (7, _), (8, _)] rfl ?_))))
    refine J (Y (.int .i64 (((i + 1) : Nat) : Int)) rfl rfl (add_i64 (a := i) (b := 1) (by omega)) (C rfl rfl (G [(3, _), (6, _), (7, _), (8, _)] rfl ?_)))
    refine ⟨(out ++ (vb x.length ++ x), i + 1), rfl, ⟨(M11.bare.take 0), ?_⟩, ?_⟩
    · exact ⟨by rw [hO, flatMap_take_succ sb hy]; rfl, by omega⟩
    · simp only [] at *; omega
   ·
    refine G [(3, _), (6, _), (7, _), (8, _), (9, _)] rfl ?_
    refine F (WC.condF rfl (WC.exit ?_))
    refine F (J (C rfl rfl (C rfl rfl (G [(2, _)] rfl ?_))))
    refine WC.ret (⟨[_], (res_tmp rfl res_nil), ?_⟩)
    exact ⟨by rw [← hr, hO, flatMap_take_all (l := ss) (i := i) sb (by omega)]; rfl, M5.bare.take 0⟩
def rsV (l : List UInt8) : Value := .tuple #[.string (bs (rsT l)), .int .i64 (rsK l : Int), .bool (rsOK l)]
theorem rsV_none {l : List UInt8} (h : getS l = none) : rsV l = .tuple #[.string (bs []), .int .i64 0, .bool false] := by
  obtain ⟨e1, e2, e3⟩ := rs_eq_none h; simp only [rsV, e1, e2, e3]; rfl
theorem rsV_some {l t : List UInt8} {k : Nat} (h : getS l = some (t, k)) : rsV l = .tuple #[.string (bs t), .int .i64 (k : Int), .bool true] := by
  obtain ⟨e1, e2, e3⟩ := rs_eq_some h; simp only [rsV, e1, e2, e3]
theorem getS_no {l : List UInt8} (h : rvOK l = false) : getS l = none := by
  unfold getS; rw [getV_eq, h]; rfl
theorem getS_far {l : List UInt8} (h : l.length - rvK l < rvN l) : getS l = none := by
  unfold getS; rw [getV_eq]; cases rvOK l
  · rfl
  · simp only [if_true]; rw [if_neg (by omega)]
theorem getS_yes {l : List UInt8} (h : rvOK l = true) (h2 : rvN l ≤ l.length - rvK l) : getS l = some ((l.take (rvK l + rvN l)).drop (rvK l), rvK l + rvN l) := by
  unfold getS; rw [getV_eq, h]; simp only [if_true]; rw [if_pos h2, List.drop_take, Nat.add_sub_cancel_left]
theorem num_ReadS_ran {h : H} (W : Mem h h [] []) {l : List UInt8} (hl : l.length < 9223372036854775808) : Cll tab0 36 [.string (bs l)] h (fun v h2 => v = rsV l ∧ Mem h h2 [] []) := by
  have hk := rvK_le l
  have hn64 := rvN_lt l
  refine Cll.code rfl rfl ?_
  refine WC.env [(0, _)] rfl ?_
  refine F (J (C rfl rfl (C rfl rfl (C rfl rfl (G [(0, _)] rfl ?_)))))
  refine F (J (C rfl rfl ?_))
  refine WS.call rfl rfl rfl (num_ReadV_ran W.here (l := l) (by first | omega | (simp only [AQ, AX, D, X, AZ, U]; omega) | (simp only [AQ, AX, D, X, AZ, U] at *; omega))) ?_
  rintro _ h1 ⟨rfl, N2⟩
  have M3 := W.trans N2
  refine C rfl rfl (C rfl rfl (C rfl rfl (C rfl rfl (C rfl rfl (C rfl rfl (C rfl rfl (G [(0, _), (4, _), (5, _), (6, _)] rfl ?_)))))))
  refine F (F (J (C rfl rfl ?_)))
  cases hb1 : (rvOK l)
  ·
   refine Y (.bool true) rfl rfl rfl (C rfl rfl (BQ rfl (BQ rfl (BQ rfl (BQ rfl (BQ rfl (BQ rfl (BQ rfl (C rfl rfl ?_)))))))))
   refine G [(0, _), (5, _), (6, _), (23, _)] rfl ?_
   refine WC.condT rfl (F (J (C rfl rfl (C rfl rfl (C rfl rfl (G [(2, _), (3, _), (4, _)] rfl ?_))))))
   refine WC.ret (⟨[_, _, _], (res_tmp rfl (res_tmp rfl (res_tmp rfl res_nil))), ?_⟩)
   exact ⟨by rw [rsV_none (getS_no hb1)]; rfl, M3.bare.take 0⟩
  ·
   refine Y (.bool false) rfl rfl rfl (C rfl rfl (C rfl rfl (C rfl rfl (C rfl (op_lenS (l := l) rfl) (C rfl rfl (Y (.int .i64 ((((l).length - (rvK l)) : Nat) : Int)) rfl rfl (sub_i64 (a := (l).length) (b := (rvK l)) (by have := rvK_le l; omega)) (Y (.int .u64 ((((l).length - (rvK l)) : Nat) : Int)) rfl rfl (cv_u64 (n := ((l).length - (rvK l))) (by omega)) ?_)))))))
   refine WS.gtrN (a := (rvN l)) (b := ((l).length - (rvK l))) rfl rfl rfl (fun e22 => ?_) (fun e22 => ?_)
   ·
    refine C rfl rfl (G [(0, _), (5, _), (6, _), (23, _)] rfl ?_)
    refine WC.condT rfl (F (J (C rfl rfl (C rfl rfl (C rfl rfl (G [(2, _), (3, _), (4, _)] rfl ?_))))))
    refine WC.ret (⟨[_, _, _], (res_tmp rfl (res_tmp rfl (res_tmp rfl res_nil))), ?_⟩)
    exact ⟨by rw [rsV_none (getS_far (by omega))]; rfl, M3.bare.take 0⟩
   ·
    refine C rfl rfl (G [(0, _), (5, _), (6, _), (23, _)] rfl ?_)
    refine WC.condF rfl (WC.skip (F (J (C rfl rfl (C rfl rfl (C rfl rfl (C rfl rfl (Y (.int .i64 (((rvN l) : Nat) : Int)) rfl rfl (cv_i64 (n := (rvN l)) (by have := rvN_lt l; omega)) (Y (.int .i64 ((((rvK l) + (rvN l)) : Nat) : Int)) rfl rfl (add_i64 (a := (rvK l)) (b := (rvN l)) (by have := rvK_le l; have := rvN_lt l; omega)) (C rfl (op_slS2 (l := l) (rvK l) ((rvK l) + (rvN l)) rfl rfl rfl (by first | omega | (simp only [AQ, AX, D, X, AZ, U]; omega) | (simp only [AQ, AX, D, X, AZ, U] at *; omega)) (by first | omega | (simp only [AQ, AX, D, X, AZ, U]; omega) | (simp only [AQ, AX, D, X, AZ, U] at *; omega))) (C rfl rfl (C rfl rfl (Y (.int .i64 (((rvN l) : Nat) : Int)) rfl rfl (cv_i64 (n := (rvN l)) (by have := rvN_lt l; omega)) ?_)))))))))))))
    refine Y (.int .i64 ((((rvK l) + (rvN l)) : Nat) : Int)) rfl rfl (add_i64 (a := (rvK l)) (b := (rvN l)) (by have := rvK_le l; have := rvN_lt l; omega)) (C rfl rfl (C rfl rfl (C rfl rfl (G [(2, _), (3, _), (4, _)] rfl ?_))))
    refine WC.ret (⟨[_, _, _], (res_tmp rfl (res_tmp rfl (res_tmp rfl res_nil))), ?_⟩)
    exact ⟨by rw [rsV_some (getS_yes hb1 (by omega))]; rfl, M3.bare.take 0⟩
theorem one_eq {n m : Nat} {t : List UInt8} (h : (m ≤ 127 ∧ t = vb n) ∨ vb n = hi (m / 128) ++ t) (hm : 127 < m) : vb n = hi (m / 128) ++ t := by
  rcases h with h | h
  · omega
  · exact h
theorem one_end {n m : Nat} {t : List UInt8} (h : (m ≤ 127 ∧ t = vb n) ∨ vb n = hi (m / 128) ++ t) (hm : m ≤ 127) : vb n = t := by
  rcases h with h | h
  · exact h.2.symm
  · rw [show m / 128 = 0 by omega, hi_zero] at h; exact h
theorem step_one {n m : Nat} {t : List UInt8} (h : (m ≤ 127 ∧ t = vb n) ∨ vb n = hi (m / 128) ++ t) (hm : 127 < m) : (m / 128 ≤ 127 ∧ UInt8.ofNat (128 + m / 128 % 128) :: t = vb n) ∨ vb n = hi (m / 128 / 128) ++ UInt8.ofNat (128 + m / 128 % 128) :: t := by
  right
  rw [one_eq h hm, hi_pos (n := m / 128) (by omega)]; simp
theorem ref_One_ran {h : H} (W : Mem h h [] []) {n : Nat} (hn : n < 18446744073709551616) : Cll tab0 47 [.int .u64 (n : Int)] h (fun v h2 => v = .string (bs (vb n)) ∧ Mem h h2 [] []) := by
  have hv := vb_len hn
  refine Cll.code rfl rfl ?_
  refine WC.env [(0, _)] rfl ?_
  refine F (J (C rfl rfl (G [(0, _)] rfl ?_)))
  refine F (J (C rfl rfl (Y (.int .u64 (((n % 128) : Nat) : Int)) rfl rfl (rem_k (a := n) (b := 128)) (Y (.int .u8 (((UInt8.ofNat (n % 128)).toNat : Nat) : Int)) rfl rfl (u8_ofNat (n := (n % 128))) ?_))))
  refine WS.bsl W [_] rfl rfl rfl rfl ?_
  intro p1 h2 M3
  refine C rfl (op_cvB (l := [UInt8.ofNat (n % 128)]) (M3.at 0 rfl) rfl rfl (Nat.le_of_ble_eq_true rfl) rfl) (C rfl rfl (G [(0, _), (3, _)] rfl ?_))
  refine F (WC.block ?_)
  obtain ⟨L4, eL6, M5⟩ := Mem.name M3.bare
  refine WC.loop (σ := Nat × List UInt8) (fun ((m, t)) => [(0, (.int .u64 ((m : Nat) : Int))), (3, (.string (bs t)))]) (fun ((m, t)) hh => Mem h hh (L4) [] ∧ ((m ≤ 127 ∧ t = vb n) ∨ vb n = hi (m / 128) ++ t) ∧ m < 18446744073709551616 ∧ t.length ≤ 10) (fun ((m, t)) => m) (n, [UInt8.ofNat (n % 128)]) rfl ⟨M5, ?_⟩ ?_
  · exact ⟨.inr rfl, hn, by simp⟩
  ·rintro ⟨m, t⟩ h7 ⟨M8, ⟨hO, hm, ht⟩⟩
   replace eL6 := eL6.symm; subst eL6
   refine WC.env [(0, _), (3, _)] rfl ?_
   refine F (F (J (C rfl rfl ?_)))
   refine WS.gtrN (a := m) (b := 127) rfl rfl rfl (fun e10 => ?_) (fun e10 => ?_)
   ·
    refine G [(0, _), (3, _), (10, _)] rfl ?_
    refine WC.condT rfl (WC.skip (WC.block (F (J (C rfl rfl (Y (.int .u64 (((m / 128) : Nat) : Int)) rfl rfl (quo_u64 (a := m) (b := 128) (by omega)) (C rfl rfl (G [(0, _), (3, _)] rfl ?_))))))))
    refine J (C rfl rfl (Y (.int .u64 ((((m / 128) % 128) : Nat) : Int)) rfl rfl (rem_k (a := (m / 128)) (b := 128)) (Y (.int .u64 (((128 + ((m / 128) % 128)) : Nat) : Int)) rfl rfl (add_u64 (a := 128) (b := ((m / 128) % 128)) (by omega)) (Y (.int .u8 (((UInt8.ofNat (128 + ((m / 128) % 128))).toNat : Nat) : Int)) rfl rfl (u8_ofNat (n := (128 + ((m / 128) % 128)))) ?_))))
    refine WS.bsl M8 [_] rfl rfl rfl rfl ?_
    intro p9 h10 M11
    refine C rfl (op_cvB (l := [UInt8.ofNat (128 + ((m / 128) % 128))]) (M11.at 0 rfl) rfl rfl (Nat.le_of_ble_eq_true rfl) rfl) (C rfl rfl (C rfl (op_sadd (l := [UInt8.ofNat (128 + ((m / 128) % 128))]) (m := t) rfl rfl (by first | omega | (simp only [AQ, AX, D, X, AZ, U]; omega) | (simp only [AQ, AX, D, X, AZ, U] at *; omega))) (C rfl rfl (G [(0, _), (3, _)] rfl ?_))))
    refine ⟨(m / 128, UInt8.ofNat (128 + m / 128 % 128) :: t), rfl, ⟨((M11.bare.focus 1 rfl).take 1), ?_⟩, ?_⟩
    · exact ⟨step_one hO (by omega), by omega, by have h2 := congrArg List.length (one_eq hO (by omega)); rw [hi_pos (by omega)] at h2; simp at h2; simp; omega⟩
    · simp only []; omega
   ·
    refine G [(0, _), (3, _), (10, _)] rfl ?_
    refine WC.condF rfl (WC.exit ?_)
    refine F (J (C rfl rfl (C rfl rfl (G [(2, _)] rfl ?_))))
    refine WC.ret (⟨[_], (res_tmp rfl res_nil), ?_⟩)
    exact ⟨by rw [one_end hO (by omega)]; rfl, M8.bare.take 0⟩
theorem ref_V_ran {h : H} (W : Mem h h [] []) {V0 : Value} {ns : List Nat} (A : KNat.Sl h V0 ns) (hn : ∀ n ∈ ns, n < 18446744073709551616) (hl3 : ns.length ≤ 1000000) {r : List UInt8} (hr : ns.flatMap vb = r) : Cll tab0 41 [V0] h (fun v h2 => v = .string (bs r) ∧ Mem h h2 [] []) := by
  have hl := flatMap_vb_len ns hn
  refine Cll.code rfl rfl ?_
  refine WC.env [(0, _)] rfl ?_
  refine F (J (C rfl rfl (G [(0, _)] rfl ?_)))
  refine F (J (C rfl rfl (G [(0, _), (3, _)] rfl ?_)))
  refine F (F (J (C rfl rfl (G [(0, _), (3, _), (4, _)] rfl ?_))))
  refine WC.block ?_
  obtain ⟨L1, eL3, M2⟩ := Mem.name W.bare
  refine WC.loop (σ := List UInt8 × Nat) (fun ((out, i)) => [(0, V0), (3, (.string (bs out))), (4, (.int .i64 ((i : Nat) : Int)))]) (fun ((out, i)) hh => Mem h hh (L1) [] ∧ out = (ns.take i).flatMap vb ∧ i ≤ ns.length) (fun ((out, i)) => ns.length - i) ([], 0) rfl ⟨M2, ?_⟩ ?_
  · exact ⟨rfl, by omega⟩
  ·rintro ⟨out, i⟩ h4 ⟨M5, ⟨hO, hi1⟩⟩
   replace eL3 := eL3.symm; subst eL3
   refine WC.env [(0, _), (3, _), (4, _)] rfl ?_
   refine F (F (J (C rfl rfl (C rfl rfl (C rfl (op_lenVS A rfl) ?_)))))
   refine WS.lssN (a := i) (b := (ns).length) rfl rfl rfl (fun e8 => ?_) (fun e8 => ?_)
   ·
    refine G [(0, _), (3, _), (4, _), (8, _)] rfl ?_
    refine WC.condT rfl (WC.skip (F (WC.block (J (C rfl rfl (C rfl rfl (C rfl rfl ?_)))))))
    obtain ⟨x, hy⟩ : ∃ x, ns[i]? = some x := ⟨_, List.getElem?_eq_getElem (show i < ns.length by omega)⟩
    have hfp := flatMap_part vb hy
    have hx64 := hn x (mem_get hy)
    refine WS.iaVS A i hy rfl rfl rfl rfl ?_
    intro bx ox hx
    refine C rfl (op_ldH rfl (At.ld0 (hx.mono M5.sub) rfl)) ?_
    refine WS.call rfl rfl rfl (ref_One_ran M5.here (n := x) (by omega)) ?_
    rintro _ h6 ⟨rfl, N7⟩
    have M8 := M5.trans N7
    refine C rfl (op_sadd (l := out) (m := (vb x)) rfl rfl (by have := congrArg List.length hO; omega)) (C rfl rfl (G [(0, _), (3, _), (4, _)] rfl ?_))
    refine J (C rfl rfl (Y (.int .i64 (((i + 1) : Nat) : Int)) rfl rfl (add_i64 (a := i) (b := 1) (by omega)) (C rfl rfl (G [(0, _), (3, _), (4, _)] rfl ?_))))
    refine ⟨(out ++ vb x, i + 1), rfl, ⟨(M8.bare.take 0), ?_⟩, ?_⟩
    · exact ⟨by rw [hO, flatMap_take_succ vb hy], by omega⟩
    · simp only [] at *; omega
   ·
    refine G [(0, _), (3, _), (4, _), (8, _)] rfl ?_
    refine WC.condF rfl (WC.exit ?_)
    refine F (J (C rfl rfl (C rfl rfl (G [(2, _)] rfl ?_))))
    refine WC.ret (⟨[_], (res_tmp rfl res_nil), ?_⟩)
    exact ⟨by rw [← hr, hO, flatMap_take_all (l := ns) (i := i) vb (by omega)]; rfl, M5.bare.take 0⟩
theorem ref_S_ran {h : H} (W : Mem h h [] []) {V0 : Value} {ss : List (List UInt8)} (A : KStr.Sl h V0 ss) (hl3 : (ss.map List.length).sum + 10 * ss.length ≤ 1099511627776) {r : List UInt8} (hr : ss.flatMap sb = r) : Cll tab0 42 [V0] h (fun v h2 => v = .string (bs r) ∧ Mem h h2 [] []) := by
  have hl := flatMap_sb_len ss hl3
  refine Cll.code rfl rfl ?_
  refine WC.env [(0, _)] rfl ?_
  refine F (J (C rfl rfl (G [(0, _)] rfl ?_)))
  refine F (J (C rfl rfl (G [(0, _), (3, _)] rfl ?_)))
  refine F (F (J (C rfl rfl (G [(0, _), (3, _), (4, _)] rfl ?_))))
  refine WC.block ?_
  obtain ⟨L1, eL3, M2⟩ := Mem.name W.bare
  refine WC.loop (σ := List UInt8 × Nat) (fun ((out, i)) => [(0, V0), (3, (.string (bs out))), (4, (.int .i64 ((i : Nat) : Int)))]) (fun ((out, i)) hh => Mem h hh (L1) [] ∧ out = (ss.take i).flatMap sb ∧ i ≤ ss.length) (fun ((out, i)) => ss.length - i) ([], 0) rfl ⟨M2, ?_⟩ ?_
  · exact ⟨rfl, by omega⟩
  ·rintro ⟨out, i⟩ h4 ⟨M5, ⟨hO, hi1⟩⟩
   replace eL3 := eL3.symm; subst eL3
   refine WC.env [(0, _), (3, _), (4, _)] rfl ?_
   refine F (F (J (C rfl rfl (C rfl rfl (C rfl (op_lenVS A rfl) ?_)))))
   refine WS.lssN (a := i) (b := (ss).length) rfl rfl rfl (fun e8 => ?_) (fun e8 => ?_)
   ·
    refine G [(0, _), (3, _), (4, _), (8, _)] rfl ?_
    refine WC.condT rfl (WC.skip (F (WC.block (WC.draw M5 [] rfl ?_))))
    intro rb6 h7 M8
    refine C rfl rfl (C rfl rfl (C rfl rfl ?_))
    obtain ⟨x, hy⟩ : ∃ x, ss[i]? = some x := ⟨_, List.getElem?_eq_getElem (show i < ss.length by omega)⟩
    have hfp := flatMap_part sb hy
    have hsl : (sb x).length = (vb x.length).length + x.length := by simp [sb]
    refine WS.iaVS A i hy rfl rfl rfl rfl ?_
    intro bx ox hx
    refine C rfl (op_ldH rfl (At.ld0 (hx.mono M8.sub) rfl)) (C rfl (op_lenS (l := x) rfl) (Y (.int .u64 (((x).length : Nat) : Int)) rfl rfl (cv_u64 (n := (x).length) (by omega)) (C rfl rfl (C rfl rfl ?_))))
    refine WS.iaVS A i hy rfl rfl rfl rfl ?_
    intro bx2 ox2 hx2
    refine C rfl (op_ldH rfl (At.ld0 (hx2.mono M8.sub) rfl)) ?_
    refine WS.call rfl rfl rfl (ref_One_ran M8.here (n := ((x).length)) (by omega)) ?_
    rintro _ h9 ⟨rfl, N10⟩
    have M11 := M8.trans N10
    refine WS.chk rfl (op_ldH rfl (At.ld0 (hx2.mono M11.sub) rfl)) rfl (sameV_refl rfl) (C rfl (op_sadd (l := out) (m := (vb ((x).length))) rfl rfl (by have := congrArg List.length hO; (try simp only [D]); omega)) (C rfl (op_sadd (l := (out ++ (vb ((x).length)))) (m := x) rfl rfl (by have := congrArg List.length hO; (try simp only [D]); omega)) (C rfl rfl (G [(0, _), (3, _), (4, _)] rfl ?_))))
    refine J (C rfl rfl (Y (.int .i64 (((i + 1) : Nat) : Int)) rfl rfl (add_i64 (a := i) (b := 1) (by omega)) (C rfl rfl (G [(0, _), (3, _), (4, _)] rfl ?_))))
    refine ⟨((out ++ vb x.length) ++ x, i + 1), rfl, ⟨(M11.bare.bare.take 0), ?_⟩, ?_⟩
    · exact ⟨by rw [hO, flatMap_take_succ sb hy, List.append_assoc]; rfl, by omega⟩
    · simp only [] at *; omega
   ·
    refine G [(0, _), (3, _), (4, _), (8, _)] rfl ?_
    refine WC.condF rfl (WC.exit ?_)
    refine F (J (C rfl rfl (C rfl rfl (G [(2, _)] rfl ?_))))
    refine WC.ret (⟨[_], (res_tmp rfl res_nil), ?_⟩)
    exact ⟨by rw [← hr, hO, flatMap_take_all (l := ss) (i := i) sb (by omega)]; rfl, M5.bare.take 0⟩
def val (t : List UInt8) : Nat := t.foldl (fun n c => 128 * n + c.toNat % 128) 0
theorem val_snoc (t : List UInt8) (c : UInt8) : val (t ++ [c]) = 128 * val t + c.toNat % 128 := by simp [val]
theorem hi_ge : ∀ (n : Nat), ∀ c ∈ hi n, 128 ≤ c.toNat := by
  intro n
  induction n using Nat.strongRecOn with
  | _ n ih =>
    intro c hc
    by_cases h : n = 0
    · subst h; rw [hi_zero] at hc; simp at hc
    · rw [hi_pos h, List.mem_append, List.mem_singleton] at hc
      rcases hc with hc | hc
      · exact ih _ (by omega) c hc
      · subst hc; rw [toNat_ofNat (by omega)]; omega
theorem val_hi : ∀ (n : Nat), val (hi n) = n := by
  intro n
  induction n using Nat.strongRecOn with
  | _ n ih =>
    by_cases h : n = 0
    · subst h; rw [hi_zero]; rfl
    · rw [hi_pos h, val_snoc, ih _ (by omega), toNat_ofNat (by omega)]; omega
theorem val_vb (n : Nat) : val (vb n) = n := by
  unfold vb; rw [val_snoc, val_hi, toNat_ofNat (by omega)]; omega
theorem vb_length (n : Nat) : (vb n).length = (hi (n / 128)).length + 1 := by simp [vb]
theorem getV_first {l : List UInt8} {n k i : Nat} (h : getV l = some (n, k)) (hg : ∀ j, j < i → ∀ c, l[j]? = some c → 128 ≤ c.toNat) : i < k := by
  obtain ⟨e1, e2, e3⟩ := getV_some h
  have hl := vb_length n
  rcases Nat.lt_or_ge i k with q | q
  · exact q
  · have hc : l[k - 1]? = some (UInt8.ofNat (n % 128)) := by
      rw [e1, List.getElem?_append_left (by omega)]
      unfold vb
      rw [List.getElem?_append_right (by omega), show k - 1 - (hi (n / 128)).length = 0 by omega]; rfl
    have := hg (k - 1) (by omega) _ hc
    rw [toNat_ofNat (by omega)] at this; omega
theorem getV_last {l : List UInt8} {n k i : Nat} {c : UInt8} (h : getV l = some (n, k)) (hc : l[i]? = some c) (hlt : c.toNat < 128) : k ≤ i + 1 := by
  obtain ⟨e1, e2, e3⟩ := getV_some h
  have hl := vb_length n
  rcases Nat.lt_or_ge (i + 1) k with q | q
  · rw [e1, List.getElem?_append_left (by omega)] at hc
    unfold vb at hc
    rw [List.getElem?_append_left (by omega)] at hc
    have := hi_ge _ c (List.mem_of_getElem? hc); omega
  · omega
theorem mul128 {n : Nat} : Value.int .u64 (IntKind.u64.wrap (128 * (n : Int))) = .int .u64 ((128 * n % 18446744073709551616 : Nat) : Int) := by
  congr 1
theorem take_snoc {l : List UInt8} {i : Nat} {c : UInt8} (hc : l[i]? = some c) : l.take (i + 1) = l.take i ++ [c] := by rw [List.take_add_one, hc]; rfl
theorem ge_step {l : List UInt8} {i : Nat} {c : UInt8} (hg : ∀ j, j < i → ∀ c, l[j]? = some c → 128 ≤ c.toNat) (hc : l[i]? = some c) (h : 128 ≤ c.toNat) : ∀ j, j < i + 1 → ∀ c, l[j]? = some c → 128 ≤ c.toNat := by
  intro j hj d hd
  rcases Nat.lt_or_ge j i with q | q
  · exact hg j q d hd
  · obtain rfl : j = i := by omega
    rw [hc] at hd; cases hd; exact h
theorem ref_no {l : List UInt8} {i : Nat} (hg : ∀ j, j < i → ∀ c, l[j]? = some c → 128 ≤ c.toNat) (hi2 : 10 ≤ i ∨ l.length ≤ i) : getV l = none := by
  cases hv : getV l with
  | none => rfl
  | some p =>
    obtain ⟨n, k⟩ := p
    have := getV_first hv hg
    have := getV_le hv
    omega
theorem ref_ne {l : List UInt8} {i n : Nat} {c : UInt8} (hg : ∀ j, j < i → ∀ c, l[j]? = some c → 128 ≤ c.toNat) (hc : l[i]? = some c) (hlt : c.toNat < 128) (hn : n = val (l.take (i + 1)) % 18446744073709551616) (hne : vb n ≠ l.take (i + 1)) : getV l = none := by
  cases hv : getV l with
  | none => rfl
  | some p =>
    obtain ⟨m, k⟩ := p
    have h1 := getV_first hv hg
    have h2 := getV_last hv hc hlt
    obtain ⟨e1, e2, e3⟩ := getV_some hv
    have hk : k = i + 1 := by omega
    have ht : l.take (i + 1) = vb m := by
      rw [← hk, e2]
      conv => lhs; rw [e1]
      rw [List.take_left]
    rw [ht, val_vb, Nat.mod_eq_of_lt e3] at hn
    exact absurd (by rw [hn, ht]) hne
theorem ref_eq {l : List UInt8} {i n : Nat} (hn : n < 18446744073709551616) (hi1 : i < l.length) (he : vb n = l.take (i + 1)) : getV l = some (n, i + 1) := by
  have h1 := getV_vb hn (l.drop (i + 1))
  rw [he, List.take_append_drop, AX] at h1
  rw [h1]; congr 2; omega
theorem ref_ReadV_ran {h : H} (W : Mem h h [] []) {l : List UInt8} (hl : l.length < 9223372036854775808) : Cll tab0 54 [.string (bs l)] h (fun v h2 => v = rvV l ∧ Mem h h2 [] []) := by
  refine Cll.code rfl rfl ?_
  refine WC.env [(0, _)] rfl ?_
  refine F (J (C rfl rfl (C rfl rfl (C rfl rfl (G [(0, _)] rfl ?_)))))
  refine F (J (C rfl rfl (G [(0, _), (5, _)] rfl ?_)))
  refine F (F (J (C rfl rfl (G [(0, _), (5, _), (6, _)] rfl ?_))))
  refine WC.block ?_
  obtain ⟨L1, eL3, M2⟩ := Mem.name W.bare
  refine WC.loop (σ := Nat × Nat) (fun ((n, i)) => [(0, (.string (bs l))), (5, (.int .u64 ((n : Nat) : Int))), (6, (.int .i64 ((i : Nat) : Int)))]) (fun ((n, i)) hh => Mem h hh (L1) [] ∧ n = val (l.take i) % 18446744073709551616 ∧ (∀ j, j < i → ∀ c, l[j]? = some c → 128 ≤ c.toNat) ∧ i ≤ l.length) (fun ((n, i)) => l.length - i) (0, 0) rfl ⟨M2, ?_⟩ ?_
  · exact ⟨rfl, by omega, by omega⟩
  ·rintro ⟨n, i⟩ h4 ⟨M5, ⟨hO, hg, hi1⟩⟩
   replace eL3 := eL3.symm; subst eL3
   refine WC.env [(0, _), (5, _), (6, _)] rfl ?_
   refine F (F (J (C rfl rfl (C rfl rfl (C rfl (op_lenS (l := l) rfl) ?_)))))
   refine WS.lssN (a := i) (b := (l).length) rfl rfl rfl (fun e10 => ?_) (fun e10 => ?_)
   ·
    refine C rfl rfl (C rfl rfl ?_)
    refine WS.lssN (a := i) (b := 10) rfl rfl rfl (fun e13 => ?_) (fun e13 => ?_)
    ·
     refine C rfl rfl (G [(0, _), (5, _), (6, _), (14, _)] rfl ?_)
     refine WC.condT rfl (WC.skip (F (WC.block (F (J (C rfl rfl (Y (.int .u64 ((128 * n % 18446744073709551616 : Nat) : Int)) rfl rfl mul128 (C rfl rfl (C rfl rfl ?_)))))))))
     obtain ⟨c, hc⟩ : ∃ c, l[i]? = some c := ⟨_, List.getElem?_eq_getElem (show i < l.length by omega)⟩
     have hcl := c.toNat_lt
     have hts := take_snoc hc
     have hv : (128 * n % 18446744073709551616 + c.toNat % 128) = val (l.take (i + 1)) % 18446744073709551616 := by rw [hts, val_snoc, hO]; omega
     refine C rfl (op_ixS i rfl rfl hc) (Y (.int .u8 ((((c).toNat % 128) : Nat) : Int)) rfl rfl (rem_k (a := (c).toNat) (b := 128)) (Y (.int .u64 ((((c).toNat % 128) : Nat) : Int)) rfl rfl (cv_u64 (n := ((c).toNat % 128)) (by omega)) (Y (.int .u64 ((((128 * n % 18446744073709551616) + ((c).toNat % 128)) : Nat) : Int)) rfl rfl (add_u64 (a := (128 * n % 18446744073709551616)) (b := ((c).toNat % 128)) (by omega)) (C rfl rfl (G [(0, _), (5, _), (6, _)] rfl ?_)))))
     refine F (J (C rfl rfl (C rfl rfl (C rfl (op_ixS i rfl rfl hc) ?_))))
     refine WS.lssN (a := (c).toNat) (b := 128) rfl rfl rfl (fun e28 => ?_) (fun e28 => ?_)
     ·
      refine G [(0, _), (5, _), (6, _), (28, _)] rfl ?_
      refine WC.condT rfl (F (F (WC.draw M5 [] rfl ?_)))
      intro rb6 h7 M8
      refine C rfl rfl (C rfl rfl (C rfl rfl (Y (.int .i64 (((i + 1) : Nat) : Int)) rfl rfl (add_i64 (a := i) (b := 1) (by omega)) (C rfl (op_slS1 (l := l) (i + 1) rfl rfl (by first | omega | (simp only [AQ, AX, D, X, AZ, U]; omega) | (simp only [AQ, AX, D, X, AZ, U] at *; omega))) ?_))))
      refine WS.call rfl rfl rfl (ref_One_ran M8.here (n := ((128 * n % 18446744073709551616) + ((c).toNat % 128))) (by omega)) ?_
      rintro _ h9 ⟨rfl, N10⟩
      have M11 := M8.trans N10
      refine WS.sneq (l := (vb ((128 * n % 18446744073709551616) + ((c).toNat % 128)))) (m := ((l).take (i + 1))) rfl rfl rfl (fun e35 => ?_) (fun e35 => ?_)
      ·
       refine G [(5, _), (6, _), (35, _)] rfl ?_
       refine WC.condT rfl (F (J (C rfl rfl (C rfl rfl (C rfl rfl (G [(2, _), (3, _), (4, _)] rfl ?_))))))
       refine WC.ret (⟨[_, _, _], (res_tmp rfl (res_tmp rfl (res_tmp rfl res_nil))), ?_⟩)
       exact ⟨by rw [rvV_none (ref_ne hg hc (by omega) hv (by assumption))]; rfl, M11.bare.bare.take 0⟩
      ·
       refine G [(5, _), (6, _), (35, _)] rfl ?_
       refine WC.condF rfl (WC.skip (F (J (C rfl rfl (C rfl rfl (Y (.int .i64 (((i + 1) : Nat) : Int)) rfl rfl (add_i64 (a := i) (b := 1) (by omega)) (C rfl rfl (C rfl rfl (C rfl rfl (G [(2, _), (3, _), (4, _)] rfl ?_))))))))))
       refine WC.ret (⟨[_, _, _], (res_tmp rfl (res_tmp rfl (res_tmp rfl res_nil))), ?_⟩)
       exact ⟨by rw [rvV_some (ref_eq (n := 128 * n % 18446744073709551616 + c.toNat % 128) (i := i) (by omega) (by omega) (by assumption))]; rfl, M11.bare.bare.take 0⟩
     ·
      refine G [(0, _), (5, _), (6, _), (28, _)] rfl ?_
      refine WC.condF rfl (WC.skip (J (C rfl rfl (Y (.int .i64 (((i + 1) : Nat) : Int)) rfl rfl (add_i64 (a := i) (b := 1) (by omega)) (C rfl rfl (G [(0, _), (5, _), (6, _)] rfl ?_))))))
      refine ⟨((128 * n % 18446744073709551616 + c.toNat % 128), i + 1), rfl, ⟨(M5.bare.take 0), ?_⟩, ?_⟩
      · exact ⟨hv, ge_step hg hc (by omega), by omega⟩
      · simp only []; omega
    ·
     refine C rfl rfl (G [(0, _), (5, _), (6, _), (14, _)] rfl ?_)
     refine WC.condF rfl (WC.exit ?_)
     refine F (J (C rfl rfl (C rfl rfl (C rfl rfl (G [(2, _), (3, _), (4, _)] rfl ?_)))))
     refine WC.ret (⟨[_, _, _], (res_tmp rfl (res_tmp rfl (res_tmp rfl res_nil))), ?_⟩)
     exact ⟨by rw [rvV_none (ref_no hg (by omega))]; rfl, M5.bare.take 0⟩
   ·
    refine C rfl rfl (BQ rfl (BQ rfl (C rfl rfl (G [(0, _), (5, _), (6, _), (14, _)] rfl ?_))))
    refine WC.condF rfl (WC.exit ?_)
    refine F (J (C rfl rfl (C rfl rfl (C rfl rfl (G [(2, _), (3, _), (4, _)] rfl ?_)))))
    refine WC.ret (⟨[_, _, _], (res_tmp rfl (res_tmp rfl (res_tmp rfl res_nil))), ?_⟩)
    exact ⟨by rw [rvV_none (ref_no hg (by omega))]; rfl, M5.bare.take 0⟩
theorem ref_ReadS_ran {h : H} (W : Mem h h [] []) {l : List UInt8} (hl : l.length < 4611686018427387904) : Cll tab0 44 [.string (bs l)] h (fun v h2 => v = rsV l ∧ Mem h h2 [] []) := by
  have hk := rvK_le l
  have hn64 := rvN_lt l
  refine Cll.code rfl rfl ?_
  refine WC.env [(0, _)] rfl ?_
  refine F (J (C rfl rfl (C rfl rfl (C rfl rfl (G [(0, _)] rfl ?_)))))
  refine F (J (C rfl rfl ?_))
  refine WS.call rfl rfl rfl (ref_ReadV_ran W.here (l := l) (by first | omega | (simp only [AQ, AX, D, X, AZ, U]; omega) | (simp only [AQ, AX, D, X, AZ, U] at *; omega))) ?_
  rintro _ h1 ⟨rfl, N2⟩
  have M3 := W.trans N2
  refine C rfl rfl (C rfl rfl (C rfl rfl (C rfl rfl (C rfl rfl (C rfl rfl (C rfl rfl (G [(0, _), (5, _), (6, _), (7, _)] rfl ?_)))))))
  refine F (F ?_)
  obtain ⟨L5, eL7, M6⟩ := Mem.name M3.bare
  refine WC.joinB (base := h) (fun b => [(0, (.string (bs l))), (5, (.int .u64 (((rvN l) : Nat) : Int))), (6, (.int .i64 (((rvK l) : Nat) : Int))), (31, .bool b)]) L5 (getS l = none) (rvOK l = true ∧ rvN l ≤ l.length - rvK l) ?_ ?_ ?_
  ·replace eL7 := eL7.symm; subst eL7
   refine C rfl rfl ?_
   cases hb1 : (rvOK l)
   ·
    refine Y (.bool true) rfl rfl rfl (C rfl rfl (BQ rfl (BQ rfl (BQ rfl (BQ rfl (BQ rfl (C rfl rfl (C rfl rfl (BQ rfl ?_)))))))))
    refine BQ rfl (BQ rfl (BQ rfl (BQ rfl (BQ rfl (BQ rfl (C rfl rfl ?_))))))
    refine WS.nil' ⟨true, rfl, (M6.bare.take 0), fun _ => ?_, fun hh => ?_⟩
    · first | exact getS_no hb1 | exact getS_far (by omega)
    · cases hh
   ·
    refine Y (.bool false) rfl rfl rfl (C rfl rfl (C rfl rfl (C rfl rfl (C rfl (op_lenS (l := l) rfl) (Y (.int .u64 (((l).length : Nat) : Int)) rfl rfl (cv_u64 (n := (l).length) (by omega)) ?_)))))
    refine WS.gtrN (a := (rvN l)) (b := (l).length) rfl rfl rfl (fun e21 => ?_) (fun e21 => ?_)
    ·
     refine C rfl rfl (C rfl rfl (BQ rfl (BQ rfl (BQ rfl (BQ rfl (BQ rfl (BQ rfl (BQ rfl (C rfl rfl ?_)))))))))
     refine WS.nil' ⟨true, rfl, (M6.bare.take 0), fun _ => ?_, fun hh => ?_⟩
     · first | exact getS_no hb1 | exact getS_far (by omega)
     · cases hh
    ·
     refine C rfl rfl (C rfl rfl (C rfl rfl (C rfl rfl (Y (.int .i64 (((rvN l) : Nat) : Int)) rfl rfl (cv_i64 (n := (rvN l)) (by have := rvN_lt l; omega)) (Y (.int .i64 ((((rvK l) + (rvN l)) : Nat) : Int)) rfl rfl (add_i64 (a := (rvK l)) (b := (rvN l)) (by have := rvK_le l; have := rvN_lt l; omega)) (C rfl rfl (C rfl (op_lenS (l := l) rfl) ?_)))))))
     refine WS.gtrN (a := ((rvK l) + (rvN l))) (b := (l).length) rfl rfl rfl (fun e30 => ?_) (fun e30 => ?_)
     ·
      refine C rfl rfl ?_
      refine WS.nil' ⟨true, rfl, (M6.bare.take 0), fun _ => ?_, fun hh => ?_⟩
      · first | exact getS_no hb1 | exact getS_far (by omega)
      · cases hh
     ·
      refine C rfl rfl ?_
      refine WS.nil' ⟨false, rfl, (M6.bare.take 0), fun hh => ?_, fun _ => ?_⟩
      · cases hh
      · exact ⟨rfl, by omega⟩
  ·intro h8 M9 hp31
   replace eL7 := eL7.symm; subst eL7
   refine WC.condT rfl (F (J (C rfl rfl (C rfl rfl (C rfl rfl (G [(2, _), (3, _), (4, _)] rfl ?_))))))
   refine WC.ret (⟨[_, _, _], (res_tmp rfl (res_tmp rfl (res_tmp rfl res_nil))), ?_⟩)
   exact ⟨by rw [rsV_none hp31]; rfl, M9.bare.take 0⟩
  ·intro h10 M11 hp31
   replace eL7 := eL7.symm; subst eL7
   refine WC.condF rfl (WC.skip (F (J (C rfl rfl (C rfl rfl (C rfl rfl (C rfl rfl (Y (.int .i64 (((rvN l) : Nat) : Int)) rfl rfl (cv_i64 (n := (rvN l)) (by have := rvN_lt l; omega)) (Y (.int .i64 ((((rvK l) + (rvN l)) : Nat) : Int)) rfl rfl (add_i64 (a := (rvK l)) (b := (rvN l)) (by have := rvK_le l; have := rvN_lt l; omega)) (C rfl (op_slS2 (l := l) (rvK l) ((rvK l) + (rvN l)) rfl rfl rfl (by first | omega | (simp only [AQ, AX, D, X, AZ, U]; omega) | (simp only [AQ, AX, D, X, AZ, U] at *; omega)) (by first | omega | (simp only [AQ, AX, D, X, AZ, U]; omega) | (simp only [AQ, AX, D, X, AZ, U] at *; omega))) (C rfl rfl (C rfl rfl (Y (.int .i64 (((rvN l) : Nat) : Int)) rfl rfl (cv_i64 (n := (rvN l)) (by have := rvN_lt l; omega)) ?_)))))))))))))
   refine Y (.int .i64 ((((rvK l) + (rvN l)) : Nat) : Int)) rfl rfl (add_i64 (a := (rvK l)) (b := (rvN l)) (by have := rvK_le l; have := rvN_lt l; omega)) (C rfl rfl (C rfl rfl (C rfl rfl (G [(2, _), (3, _), (4, _)] rfl ?_))))
   refine WC.ret (⟨[_, _, _], (res_tmp rfl (res_tmp rfl (res_tmp rfl res_nil))), ?_⟩)
   exact ⟨by rw [rsV_some (getS_yes hp31.1 hp31.2)]; rfl, M11.bare.take 0⟩
end Go.Proofs.Ytomaijljeacpjaa.Wt
namespace Go.Proofs.Ytomaijljeacpjaa.Wt
open Go Go.Proofs.Ytomaijljeacpjaa.Am Go.Proofs.Ytomaijljeacpjaa.IrAll
set_option linter.unusedVariables false
set_option linter.unusedSimpArgs false
theorem u8_inj {a b : UInt8} (h : a.toNat = b.toNat) : a = b := UInt8.toNat_inj.1 h
theorem u64_inj {a b : UInt64} (h : a.toNat = b.toNat) : a = b := UInt64.toNat_inj.1 h
structure Part where
  op : UInt8
  ky : List UInt8
  va : List UInt8
  deriving DecidableEq
structure Cmd where
  op : UInt8
  se : UInt64
  sq : UInt64
  ky : List UInt8
  va : List UInt8
  ex : List UInt8
  fr : List UInt8
  to : List UInt8
  li : UInt8
  le : UInt64
  tt : UInt64
  ps : List Part
  deriving DecidableEq
variable {h base : H} {L : List Seg} {R : List Nat}
theorem one_ran (W : Mem h h [] []) {n : Nat} {b : UInt8} (hb : UInt8.ofNat n = b) : Cll tab0 46 [.int .i64 (n : Int)] h (fun v h2 => v = .string (bs [b]) ∧ Mem h h2 [] []) := by
  subst hb
  refine Cll.code rfl rfl ?_
  refine WC.env [(0, _)] rfl ?_
  refine WC.seq (WC.run (WS.op rfl rfl (WS.nil [(0, _)] rfl ?_)))
  refine WC.seq (WC.run (WS.op rfl rfl (WS.opV (.int .u8 (((UInt8.ofNat n).toNat : Nat) : Int)) rfl rfl (u8_ofNat (n := n)) ?_)))
  refine WS.bsl W [_] rfl rfl rfl rfl ?_
  intro p1 h2 M3
  refine WS.op rfl (op_cvB (l := [UInt8.ofNat n]) (M3.at 0 rfl) rfl rfl (Nat.le_of_ble_eq_true rfl) rfl) (WS.op rfl rfl (WS.nil [(2, _)] rfl ?_))
  refine WC.ret (⟨[_], (res_tmp rfl res_nil), ?_⟩)
  exact ⟨rfl, M3.bare.take 0⟩
theorem text_ran (W : Mem h h [] []) {l : List UInt8} (hl : l.length ≤ 1000000) : Cll tab0 48 [.string (bs l)] h (fun v h2 => v = .string (bs (sb l)) ∧ Mem h h2 [] []) := by
  refine Cll.code rfl rfl ?_
  refine WC.env [(0, _)] rfl ?_
  refine WC.seq (WC.run (WS.op rfl rfl (WS.nil [(0, _)] rfl ?_)))
  refine WC.seq (WC.run (WS.op rfl rfl ?_))
  refine WS.bsl W [_] rfl rfl rfl rfl ?_
  intro p1 h2 M3
  refine WS.call rfl rfl rfl (ref_S_ran M3.here (Row.Sl.own (K := KStr) (l := [l]) (M3.at 0 rfl)) (by simp only [List.map_cons, List.map_nil, List.sum_cons, List.sum_nil, List.length_cons, List.length_nil]; omega) (r := (sb l)) (by simp [List.flatMap])) ?_
  rintro _ h4 ⟨rfl, N5⟩
  have M6 := M3.trans N5
  refine WS.op rfl rfl (WS.nil [(2, _)] rfl ?_)
  refine WC.ret (⟨[_], (res_tmp rfl res_nil), ?_⟩)
  exact ⟨rfl, M6.bare.take 0⟩
def blank (c : Cmd) : Cmd := ⟨c.op, c.se, c.sq, [], [], [], [], [], 0, 0, 0, []⟩
def plain (c : Cmd) : Cmd :=
  if c.op.toNat = 1 ∨ c.op.toNat = 6 then { blank c with tt := c.tt }
  else if c.op.toNat = 2 then { blank c with ky := c.ky, va := c.va, le := c.le }
  else if c.op.toNat = 3 ∨ c.op.toNat = 8 then { blank c with ky := c.ky }
  else if c.op.toNat = 4 then { blank c with ky := c.ky, ex := c.ex, va := c.va }
  else if c.op.toNat = 5 then { blank c with ps := c.ps }
  else if c.op.toNat = 7 then { blank c with le := c.le }
  else if c.op.toNat = 9 then { blank c with fr := c.fr, to := c.to, li := c.li }
  else blank c
section
variable {c : Cmd}
end
theorem sb_len3 {t : List UInt8} (h : t.length ≤ 300000) : (sb t).length ≤ 300010 := by have := sb_len (t := t) (by omega); omega
end Go.Proofs.Ytomaijljeacpjaa.Wt
namespace Go.Proofs.Ytomaijljeacpjaa.Wt
open Go Go.Proofs.Ytomaijljeacpjaa.Am Go.Proofs.Ytomaijljeacpjaa.IrAll
set_option linter.unusedVariables false
set_option linter.unusedSimpArgs false
variable {h base : H} {L : List Seg} {R : List Nat}
theorem eq_take_step {α : Type} {l m : List α} {i : Nat} {x y : α} (h : l.take i = m.take i) (hx : l[i]? = some x) (hy : m[i]? = some y) (e : x = y) : l.take (i + 1) = m.take (i + 1) := by
  rw [List.take_add_one, List.take_add_one, h, hx, hy, e]
theorem ne_of_get {α : Type} {l m : List α} {i : Nat} {x y : α} (hx : l[i]? = some x) (hy : m[i]? = some y) (e : x ≠ y) : l ≠ m := by
  intro q; subst q; rw [hx] at hy; cases hy; exact e rfl
section
variable {c : Cmd}
end
end Go.Proofs.Ytomaijljeacpjaa.Wt
namespace Go.Proofs.Ytomaijljeacpjaa.Wt
open Go Go.Proofs.Ytomaijljeacpjaa.Am Go.Proofs.Ytomaijljeacpjaa.IrAll
set_option linter.unusedVariables false
set_option linter.unusedSimpArgs false
variable {h base : H} {L : List Seg} {R : List Nat}
theorem same_sl {P : Option Addr} {n c : Nat} : sameV (.slice P n c) (.slice P n c) = true := by first | (simp [sameV, same1]; done) | (have := sameL_self (l := [.slice P n c]) rfl; simpa [sameL, sameV] using this)
def Sees (base : H) (L : List Seg) (p o : Nat) (v : Value) : Prop := ∃ B, (base.get p = some B ∨ [(p, B)] ∈ L) ∧ B.cells[o]? = some v
theorem Sees.get {p o : Nat} {v : Value} {L' : List Seg} (S : Sees base L p o v) (M : Mem base h L' R) (hs : ∀ x ∈ L, x ∈ L') : h.ld ⟨p, o, none⟩ = some v := by
  obtain ⟨B, hb, hc⟩ := S
  have : h.get p = some B := by
    rcases hb with hb | hb
    · exact M.sub _ _ hb
    · exact (M.own (p, B) (List.mem_flatten.2 ⟨_, hs _ hb, List.mem_singleton.2 rfl⟩)).1
  exact ld_at this hc
theorem At.sees {b o k : Nat} {cs : List Value} {v : Value} (A : At base b o cs) (hc : cs[k]? = some v) : Sees base L b (o + k) v := by
  obtain ⟨B, e1, e2, e3⟩ := A
  have hk := (List.getElem?_eq_some_iff.1 hc).1
  refine ⟨B, .inl e1, ?_⟩
  rw [← e3, List.getElem?_take, if_pos hk, List.getElem?_drop] at hc; exact hc
theorem w_byte_ran {w p o : Nat} {l : List UInt8} {c : UInt8} {V : Value} {S : Seg} (O : KU8.Own V l S) (M : Mem base h (S :: [(w, ⟨[V], 0, false⟩)] :: L) []) (Z : Sees base L p o (.int .u8 ((c.toNat : Nat) : Int))) (hl : l.length + 1 ≤ 1000000000000) : Cll tab0 77 [.pointer (some ⟨w, 0, none⟩), .pointer (some ⟨p, o, none⟩)] h (fun v h2 => ∃ V2 S2, KU8.Own V2 (l ++ [c]) S2 ∧ v = .tuple #[] ∧ Mem base h2 (S2 :: [(w, ⟨[V2], 0, false⟩)] :: L) []) := by
  obtain ⟨P, rfl⟩ := O.shape
  refine Cll.code rfl rfl ?_
  refine WC.env [(0, _), (1, _)] rfl ?_
  refine WC.draw M [8] rfl ?_
  intro rb1 h2 M3
  refine WS.op rfl rfl (WS.op rfl rfl (WS.op rfl rfl (WS.op rfl rfl (WS.op rfl (op_ld (M3.at 1 rfl) rfl rfl) (WS.op rfl rfl (WS.op rfl rfl (WS.op rfl (op_ldH rfl (Sees.get Z M3 (by intro x hx; simp [hx]))) ?_)))))))
  refine WS.bslA M3 [_] 0 rfl rfl rfl rfl rfl ?_
  intro h5 M6
  refine WS.app (l := l) (m := [c]) (O) (M6.focus 1 rfl) (Row.Src.one (K := KU8) (m := [c]) (M6.at 0 rfl)) rfl (by simp only [List.length_cons, List.length_nil]; omega) (by simp only [List.length_cons, List.length_nil]; omega) rfl rfl rfl ?_
  intro V7 S8 h9 O10 M11
  obtain ⟨P12, rfl⟩ := Row.Own.shape O10
  refine WS.op rfl rfl (WS.op rfl rfl ?_)
  refine WS.st1 (M11.focus 2 rfl) [_] [_] rfl rfl rfl rfl rfl (Nat.le_of_ble_eq_true rfl) (Nat.le_of_ble_eq_true rfl) rfl rfl ?_
  intro h13 M14
  replace M14 : Mem _ _ ([(w, _)] :: S8 :: [((rb1 + 8), _)] :: L) _ := M14
  refine WS.nil [] rfl ?_
  refine ⟨[], res_nil, ?_⟩
  exact ⟨_, _, O10, rfl, ((((M14.bare.focus 2 rfl).drop).focus 0 rfl).focus 1 rfl)⟩
theorem w_number_ran {w p o : Nat} {l : List UInt8} {c : UInt64} {V : Value} {S : Seg} (O : KU8.Own V l S) (M : Mem base h (S :: [(w, ⟨[V], 0, false⟩)] :: L) []) (Z : Sees base L p o (.int .u64 ((c.toNat : Nat) : Int))) (hl : l.length + 10 ≤ 1000000000000) : Cll tab0 78 [.pointer (some ⟨w, 0, none⟩), .pointer (some ⟨p, o, none⟩)] h (fun v h2 => ∃ V2 S2, KU8.Own V2 (l ++ vb c.toNat) S2 ∧ v = .tuple #[] ∧ Mem base h2 (S2 :: [(w, ⟨[V2], 0, false⟩)] :: L) []) := by
  obtain ⟨P, rfl⟩ := O.shape
  have hc := c.toNat_lt
  have hv := vb_len hc
  refine Cll.code rfl rfl ?_
  refine WC.env [(0, _), (1, _)] rfl ?_
  refine WC.draw M [8] rfl ?_
  intro rb1 h2 M3
  refine WS.op rfl rfl (WS.op rfl rfl (WS.op rfl rfl (WS.op rfl rfl (WS.op rfl (op_ld (M3.at 1 rfl) rfl rfl) (WS.op rfl rfl (WS.op rfl rfl (WS.op rfl (op_ldH rfl (Sees.get Z M3 (by intro x hx; simp [hx]))) ?_)))))))
  refine WS.bslA M3 [_] 0 rfl rfl rfl rfl rfl ?_
  intro h5 M6
  refine WS.call rfl rfl rfl (num_V_ran M6.here (Row.Sl.own (K := KNat) (l := [(c).toNat]) (M6.at 0 rfl)) (by intro n hn; simp only [List.mem_cons, List.mem_nil_iff, or_false] at hn; omega) (by simp) (r := (vb ((c).toNat))) (by simp [List.flatMap])) ?_
  rintro _ h7 ⟨rfl, N8⟩
  have M9 := M6.trans N8
  refine WS.chk rfl (op_ld (M9.at 2 rfl) rfl rfl) rfl same_sl ?_
  refine WS.app (l := l) (m := (vb ((c).toNat))) (O) (M9.focus 1 rfl) (src_string (vb ((c).toNat))) rfl (by omega) (by omega) rfl rfl rfl ?_
  intro V10 S11 h12 O13 M14
  obtain ⟨P15, rfl⟩ := Row.Own.shape O13
  refine WS.op rfl rfl (WS.op rfl rfl ?_)
  refine WS.st1 (M14.focus 2 rfl) [_] [_] rfl rfl rfl rfl rfl (Nat.le_of_ble_eq_true rfl) (Nat.le_of_ble_eq_true rfl) rfl rfl ?_
  intro h16 M17
  replace M17 : Mem _ _ ([(w, _)] :: S11 :: [((rb1 + 8), _)] :: L) _ := M17
  refine WS.nil [] rfl ?_
  refine ⟨[], res_nil, ?_⟩
  exact ⟨_, _, O13, rfl, ((((M17.bare.focus 2 rfl).drop).focus 0 rfl).focus 1 rfl)⟩
theorem w_text_ran {w p o : Nat} {l c : List UInt8} {V : Value} {S : Seg} (O : KU8.Own V l S) (M : Mem base h (S :: [(w, ⟨[V], 0, false⟩)] :: L) []) (Z : Sees base L p o (.string (bs c))) (hl : l.length + c.length + 10 ≤ 1000000000000) : Cll tab0 79 [.pointer (some ⟨w, 0, none⟩), .pointer (some ⟨p, o, none⟩)] h (fun v h2 => ∃ V2 S2, KU8.Own V2 (l ++ sb c) S2 ∧ v = .tuple #[] ∧ Mem base h2 (S2 :: [(w, ⟨[V2], 0, false⟩)] :: L) []) := by
  obtain ⟨P, rfl⟩ := O.shape
  have hv := sb_len (t := c) (by omega)
  refine Cll.code rfl rfl ?_
  refine WC.env [(0, _), (1, _)] rfl ?_
  refine WC.draw M [8] rfl ?_
  intro rb1 h2 M3
  refine WS.op rfl rfl (WS.op rfl rfl (WS.op rfl rfl (WS.op rfl rfl (WS.op rfl (op_ld (M3.at 1 rfl) rfl rfl) (WS.op rfl rfl (WS.op rfl rfl (WS.op rfl (op_ldH rfl (Sees.get Z M3 (by intro x hx; simp [hx]))) ?_)))))))
  refine WS.bslA M3 [_] 0 rfl rfl rfl rfl rfl ?_
  intro h5 M6
  refine WS.call rfl rfl rfl (num_S_ran M6.here (Row.Sl.own (K := KStr) (l := [c]) (M6.at 0 rfl)) (by simp only [List.map_cons, List.map_nil, List.sum_cons, List.sum_nil, List.length_cons, List.length_nil]; omega) (r := (sb c)) (by simp [List.flatMap])) ?_
  rintro _ h7 ⟨rfl, N8⟩
  have M9 := M6.trans N8
  refine WS.chk rfl (op_ld (M9.at 2 rfl) rfl rfl) rfl same_sl ?_
  refine WS.app (l := l) (m := (sb c)) (O) (M9.focus 1 rfl) (src_string (sb c)) rfl (by omega) (by omega) rfl rfl rfl ?_
  intro V10 S11 h12 O13 M14
  obtain ⟨P15, rfl⟩ := Row.Own.shape O13
  refine WS.op rfl rfl (WS.op rfl rfl ?_)
  refine WS.st1 (M14.focus 2 rfl) [_] [_] rfl rfl rfl rfl rfl (Nat.le_of_ble_eq_true rfl) (Nat.le_of_ble_eq_true rfl) rfl rfl ?_
  intro h16 M17
  replace M17 : Mem _ _ ([(w, _)] :: S11 :: [((rb1 + 8), _)] :: L) _ := M17
  refine WS.nil [] rfl ?_
  refine ⟨[], res_nil, ?_⟩
  exact ⟨_, _, O13, rfl, ((((M17.bare.focus 2 rfl).drop).focus 0 rfl).focus 1 rfl)⟩
end Go.Proofs.Ytomaijljeacpjaa.Wt
namespace Go.Proofs.Ytomaijljeacpjaa.Wt
open Go Go.Proofs.Ytomaijljeacpjaa.Am Go.Proofs.Ytomaijljeacpjaa.IrAll
set_option linter.unusedVariables false
set_option linter.unusedSimpArgs false
structure Oper where
  op : UInt8
  sl : UInt8
  t0 : UInt8
  t1 : UInt8
  t2 : UInt8
  t3 : UInt8
  t4 : UInt8
  t5 : UInt8
  t6 : UInt8
  t7 : UInt8
  ro : UInt8
  ks : Int64
  bt : Int64
  ra : Int64
  bu : Int64
  nd : UInt8
  deriving DecidableEq
def Sm (n : Int) : Prop := 0 ≤ n ∧ n ≤ 2147483647
instance (n : Int) : Decidable (Sm n) := by unfold Sm; infer_instance
variable {h base : H} {L : List Seg} {R : List Nat}
end Go.Proofs.Ytomaijljeacpjaa.Wt
namespace Go.Proofs.Ytomaijljeacpjaa.Wt
open Go Go.Proofs.Ytomaijljeacpjaa.Am Go.Proofs.Ytomaijljeacpjaa.IrAll
set_option linter.unusedVariables false
set_option linter.unusedSimpArgs false
variable {h base : H} {L : List Seg} {R : List Nat}
def nu (x : Int64) : UInt64 := UInt64.ofNat x.toInt.toNat
theorem nu_nat {x : Int64} (h : Sm x.toInt) : ((nu x).toNat : Int) = x.toInt := by
  unfold Sm at h
  have e : ∀ n : Nat, n < 18446744073709551616 → (UInt64.ofNat n).toNat = n := fun n hn => by simp [UInt64.toNat_ofNat']; omega
  unfold nu; rw [e _ (by omega)]; omega
theorem cvB {x : Int64} (h : Sm x.toInt) : Value.int .i64 (IntKind.i64.wrap ((min (nu x).toNat 4294967296 : Nat) : Int)) = .int .i64 x.toInt := by
  have hn := nu_nat h
  have h2 := h
  unfold Sm at h2
  have : min (nu x).toNat 4294967296 = (nu x).toNat := by omega
  rw [this, ← hn]; exact cv_i64 (n := (nu x).toNat) (by omega)
end Go.Proofs.Ytomaijljeacpjaa.Wt
