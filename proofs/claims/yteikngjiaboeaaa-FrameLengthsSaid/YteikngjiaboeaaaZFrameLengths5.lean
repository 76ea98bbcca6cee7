/- The law 'FrameLengths' returns true for all arguments: what its proof stands on, part 5. -/
import Derived.Test.YteikngjiaboeaaaZFrameLengths4
import Derived.Test.YteikngjiaboeaaaProg
import Derived.KernelRfl
namespace Go.Proofs.Yteikngjiaboeaaa.IrAll
open Go Go.Proofs.Yteikngjiaboeaaa.Am
def hi6 : List Hint := [.keep [1, 2], .keep [1, 2, 19], .keep [4], .keep [1, 2, 5], .keep [1, 2, 5], .keep [1, 2, 5, 24], .keep [1, 2, 5, 32], .keep [4], .keep [1, 2, 5], .keep [1, 2, 6], .keep [2, 6], .keep [2, 6, 7], .keep [2, 6, 7, 8], .keep [2, 6, 7, 8, 48], .keep [4], .keep [2, 6, 7, 8, 50], .keep [4], .keep [2, 6, 7, 8, 9, 10], .keep [2, 6, 7, 8, 9, 10, 11, 12], .keep [4]]
def ir6 : IFun := ⟨2, [.tmp 4], (.seq (.run [.op (some 2) none (.box (.tmp 0)), .op (some 4) none (.mov (.const (.bool false)))] [1, 2]) (.seq (.seq (.run [.op (some 13) none (.ldN 37 (.tmp 2)), .call (some 14) none (.fn 16) [(.tmp 13)], .op (some 15) none (.mov (.tmp 14)), .op (some 16) (some (15, false)) (.mov (.tmp 1)), .op (some 17) (some (15, false)) (.lenV (.tmp 16)), .op (some 18) (some (15, false)) (.bin .gtr (.tmp 17) (.const (.int .i64 20))), .op (some 19) none (.pick (.tmp 15) (.const (.bool true)) (.tmp 18))] [1, 2, 19]) (.cond (.tmp 19) (.seq (.run [.call (some 20) none (.fn 15) [], .op (some 4) none (.mov (.tmp 20))] [4]) .ret) .skip)) (.seq (.seq (.run [.op (some 5) none (.mov (.const (.int .i64 0)))] [1, 2, 5]) (.block 0 (.loop [1, 2, 5] (.seq (.seq (.run [.op (some 21) none (.mov (.tmp 5)), .op (some 22) none (.mov (.tmp 1)), .op (some 23) none (.lenV (.tmp 22)), .op (some 24) none (.bin .lss (.tmp 21) (.tmp 23))] [1, 2, 5, 24]) (.cond (.tmp 24) .skip (.exit 0))) (.seq (.block 1 (.seq (.run [.op (some 27) none (.mov (.tmp 1)), .op (some 28) none (.mov (.tmp 5)), .op (some 29) none (.iaV 1 (.tmp 27) (.tmp 28)), .op (some 30) none (.ld1 (.tmp 29)), .op (some 31) none (.lenS (.tmp 30)), .op (some 32) none (.bin .gtr (.tmp 31) (.const (.int .i64 3000)))] [1, 2, 5, 32]) (.cond (.tmp 32) (.seq (.run [.call (some 33) none (.fn 15) [], .op (some 4) none (.mov (.tmp 33))] [4]) .ret) .skip))) (.run [.op (some 25) none (.mov (.tmp 5)), .op (some 26) none (.bin .add (.tmp 25) (.const (.int .i64 1))), .op (some 5) none (.mov (.tmp 26))] [1, 2, 5])))))) (.seq (.run [.op (some 34) none (.ldN 37 (.tmp 2)), .op (some 6) none (.new [(.int .u8 0), (.int .u8 0), (.int .u8 0), (.int .u8 0), (.int .u8 0), (.int .u8 0), (.int .u8 0), (.int .u8 0), (.int .u8 0), (.int .u8 0), (.int .u64 0), (.int .u64 0), (.string ⟨#[]⟩), (.string ⟨#[]⟩), (.string ⟨#[]⟩), (.string ⟨#[]⟩), (.string ⟨#[]⟩), (.int .u8 0), (.int .u64 0), (.int .u64 0), (.slice none 0 0), (.int .u8 0), (.int .u8 0), (.int .u8 0), (.int .u8 0), (.int .u8 0), (.int .u8 0), (.int .u8 0), (.int .u8 0), (.int .u8 0), (.int .u8 0), (.int .u8 0), (.int .i64 0), (.int .i64 0), (.int .i64 0), (.int .i64 0), (.int .u8 0)]), .op none none (.st 37 (.tmp 6) (.tmp 34))] [1, 2, 6]) (.seq (.run [.op (some 35) none (.fa 9 (.tmp 2)), .op (some 36) none (.ldN 12 (.tmp 35)), .op (some 37) none (.mov (.tmp 1)), .call (some 38) none (.fn 24) [(.tmp 36), (.tmp 37)], .op (some 39) none (.fa 9 (.tmp 6)), .op none none (.st 12 (.tmp 39) (.tmp 38))] [2, 6]) (.seq (.run [.op (some 40) none (.ldN 37 (.tmp 2)), .call (some 41) none (.fn 10) [(.tmp 40)], .op (some 7) none (.mov (.tmp 41))] [2, 6, 7]) (.seq (.run [.op (some 42) none (.ldN 37 (.tmp 6)), .call (some 43) none (.fn 10) [(.tmp 42)], .op (some 8) none (.mov (.tmp 43))] [2, 6, 7, 8]) (.seq (.seq (.run [.op (some 44) none (.mov (.tmp 7)), .op (some 45) none (.bin .eql (.tmp 44) (.const (.string ⟨#[]⟩))), .op (some 46) none (.mov (.tmp 8)), .op (some 47) none (.bin .eql (.tmp 46) (.const (.string ⟨#[]⟩))), .op (some 48) none (.eqq true (.one 0) (.tmp 45) (.tmp 47))] [2, 6, 7, 8, 48]) (.cond (.tmp 48) (.seq (.run [.op (some 4) none (.mov (.const (.bool false)))] [4]) .ret) .skip)) (.seq (.seq (.run [.op (some 49) none (.mov (.tmp 7)), .op (some 50) none (.bin .eql (.tmp 49) (.const (.string ⟨#[]⟩)))] [2, 6, 7, 8, 50]) (.cond (.tmp 50) (.seq (.run [.call (some 51) none (.fn 15) [], .op (some 4) none (.mov (.tmp 51))] [4]) .ret) .skip)) (.seq (.run [.op (some 53) none (.mov (.tmp 7)), .call (some 54) none (.fn 13) [(.tmp 53)], .op (some 52) none (.mov (.tmp 54)), .op (some 55) none (.ext (.tmp 52) 0), .op (some 56) none (.ext (.tmp 52) 1), .op (some 9) none (.new [(.int .u8 0), (.int .u8 0), (.int .u8 0), (.int .u8 0), (.int .u8 0), (.int .u8 0), (.int .u8 0), (.int .u8 0), (.int .u8 0), (.int .u8 0), (.int .u64 0), (.int .u64 0), (.string ⟨#[]⟩), (.string ⟨#[]⟩), (.string ⟨#[]⟩), (.string ⟨#[]⟩), (.string ⟨#[]⟩), (.int .u8 0), (.int .u64 0), (.int .u64 0), (.slice none 0 0), (.int .u8 0), (.int .u8 0), (.int .u8 0), (.int .u8 0), (.int .u8 0), (.int .u8 0), (.int .u8 0), (.int .u8 0), (.int .u8 0), (.int .u8 0), (.int .u8 0), (.int .i64 0), (.int .i64 0), (.int .i64 0), (.int .i64 0), (.int .u8 0)]), .op none none (.st 37 (.tmp 9) (.tmp 55)), .op (some 10) none (.mov (.tmp 56))] [2, 6, 7, 8, 9, 10]) (.seq (.run [.op (some 58) none (.mov (.tmp 8)), .call (some 59) none (.fn 13) [(.tmp 58)], .op (some 57) none (.mov (.tmp 59)), .op (some 60) none (.ext (.tmp 57) 0), .op (some 61) none (.ext (.tmp 57) 1), .op (some 11) none (.new [(.int .u8 0), (.int .u8 0), (.int .u8 0), (.int .u8 0), (.int .u8 0), (.int .u8 0), (.int .u8 0), (.int .u8 0), (.int .u8 0), (.int .u8 0), (.int .u64 0), (.int .u64 0), (.string ⟨#[]⟩), (.string ⟨#[]⟩), (.string ⟨#[]⟩), (.string ⟨#[]⟩), (.string ⟨#[]⟩), (.int .u8 0), (.int .u64 0), (.int .u64 0), (.slice none 0 0), (.int .u8 0), (.int .u8 0), (.int .u8 0), (.int .u8 0), (.int .u8 0), (.int .u8 0), (.int .u8 0), (.int .u8 0), (.int .u8 0), (.int .u8 0), (.int .u8 0), (.int .i64 0), (.int .i64 0), (.int .i64 0), (.int .i64 0), (.int .u8 0)]), .op none none (.st 37 (.tmp 11) (.tmp 60)), .op (some 12) none (.mov (.tmp 61))] [2, 6, 7, 8, 9, 10, 11, 12]) (.seq (.run [.op (some 62) none (.mov (.tmp 10)), .op (some 63) none (.mov (.tmp 62)), .op (some 64) (some (63, true)) (.mov (.tmp 12)), .op (some 65) none (.pick (.tmp 63) (.tmp 64) (.const (.bool false))), .op (some 66) none (.mov (.tmp 65)), .op (some 67) (some (66, true)) (.ldN 37 (.tmp 9)), .op (some 68) (some (66, true)) (.ldN 37 (.tmp 2)), .call (some 69) (some (66, true)) (.fn 22) [(.tmp 67), (.tmp 68)], .op (some 70) none (.pick (.tmp 66) (.tmp 69) (.const (.bool false))), .op (some 71) none (.mov (.tmp 70)), .op (some 72) (some (71, true)) (.ldN 37 (.tmp 11)), .op (some 73) (some (71, true)) (.ldN 37 (.tmp 6)), .call (some 74) (some (71, true)) (.fn 22) [(.tmp 72), (.tmp 73)], .op (some 75) none (.pick (.tmp 71) (.tmp 74) (.const (.bool false))), .op (some 76) none (.mov (.tmp 75)), .op (some 77) (some (76, true)) (.mov (.tmp 7)), .op (some 78) (some (76, true)) (.mov (.tmp 8)), .op (some 79) (some (76, true)) (.bin .eql (.tmp 77) (.tmp 78)), .op (some 80) (some (76, true)) (.ldN 37 (.tmp 2)), .op (some 81) (some (76, true)) (.ldN 37 (.tmp 6)), .call (some 82) (some (76, true)) (.fn 22) [(.tmp 80), (.tmp 81)], .op (some 83) (some (76, true)) (.eqq false (.one 0) (.tmp 79) (.tmp 82)), .op (some 84) none (.pick (.tmp 76) (.tmp 83) (.const (.bool false))), .op (some 85) none (.mov (.tmp 84)), .call (some 86) (some (85, true)) (.fn 15) [], .op (some 87) none (.pick (.tmp 85) (.tmp 86) (.const (.bool false))), .op (some 4) none (.mov (.tmp 87))] [4]) .ret))))))))))))⟩
theorem ok6 : compF Try.prog 6 hi6 = some ir6 := by kernel_rfl
def hi9 : List Hint := [.keep [0], .keep [0, 1], .keep [0, 1], .keep [0]]
def ir9 : IFun := ⟨0, [.cell 0 (some 8)], (.seq (.run [.op (some 0) none (.new [(.int .u8 0), (.int .u8 0), (.int .u8 0), (.int .u8 0), (.int .u8 0), (.int .u8 0), (.int .u8 0), (.int .u8 0)])] [0]) (.seq (.run [.op (some 1) none (.new [(.int .u8 0), (.int .u8 0), (.int .u8 0), (.int .u8 0), (.int .u8 0), (.int .u8 0), (.int .u8 0), (.int .u8 0)])] [0, 1]) (.seq (.run [.op (some 2) none (.slA 8 1 (.tmp 1) none none none), .op (some 3) none (.cpy 1 (.tmp 2) (.const (.string ⟨#[111, 112, 101, 114, 97, 116, 111, 114]⟩)))] [0, 1]) (.seq (.run [.op (some 4) none (.ldN 8 (.tmp 1)), .op none none (.st 8 (.tmp 0) (.tmp 4))] [0]) .ret))))⟩
theorem ok9 : compF Try.prog 9 hi9 = some ir9 := by kernel_rfl
def hi10 : List Hint := [.keep [1], .keep [1, 3], .keep [1, 3, 4], .keep [1, 3, 4, 14], .keep [1, 4], .keep [1, 4, 27], .keep [1, 4], .keep [1, 4, 38], .keep [2], .draw [.op 0, .op 1, .op 4, .op 5, .op 6, .op 8, .opA 2, .opR 3 2, .op 7, .op 9, .op 10] [2]]
def ir10 : IFun := ⟨1, [.tmp 2], (.seq (.run [.op (some 1) none (.box (.tmp 0)), .op (some 2) none (.mov (.const (.string ⟨#[]⟩)))] [1]) (.seq (.run [.op (some 5) none (.fa 9 (.tmp 1)), .op (some 6) none (.fa 0 (.tmp 5)), .op (some 7) none (.ld1 (.tmp 6)), .op (some 8) none (.bin .eql (.tmp 7) (.const (.int .u8 0))), .op (some 9) none (.mov (.tmp 8)), .op (some 10) (some (9, true)) (.fa 9 (.tmp 1)), .op (some 11) (some (9, true)) (.ldN 12 (.tmp 10)), .call (some 12) (some (9, true)) (.fn 25) [(.tmp 11)], .op (some 13) none (.pick (.tmp 9) (.tmp 12) (.const (.bool false))), .op (some 3) none (.mov (.tmp 13))] [1, 3]) (.seq (.run [.op (some 4) none (.mov (.const (.string ⟨#[]⟩)))] [1, 3, 4]) (.seq (.block 0 (.seq (.run [.op (some 15) none (.fa 0 (.tmp 1)), .op (some 16) none (.ld1 (.tmp 15)), .op (some 17) none (.bin .eql (.tmp 16) (.const (.int .u8 1))), .op (some 18) none (.mov (.tmp 17)), .op (some 19) (some (18, true)) (.fa 21 (.tmp 1)), .op (some 20) (some (18, true)) (.ldN 16 (.tmp 19)), .op (some 21) (some (18, true)) (.build [(.int .u8 0), (.int .u8 0), (.int .u8 0), (.int .u8 0), (.int .u8 0), (.int .u8 0), (.int .u8 0), (.int .u8 0), (.int .u8 0), (.int .u8 0), (.int .u8 0), (.int .i64 0), (.int .i64 0), (.int .i64 0), (.int .i64 0), (.int .u8 0)] []), .op (some 22) (some (18, true)) (.eqq false (.agg [(0, 1), (1, 1), (2, 1), (3, 1), (4, 1), (5, 1), (6, 1), (7, 1), (8, 1), (9, 1), (10, 1), (11, 1), (12, 1), (13, 1), (14, 1), (15, 1)]) (.tmp 20) (.tmp 21)), .op (some 23) none (.pick (.tmp 18) (.tmp 22) (.const (.bool false))), .op (some 14) none (.mov (.tmp 23))] [1, 3, 4, 14]) (.cond (.tmp 14) (.run [.op (some 24) none (.fa 9 (.tmp 1)), .op (some 25) none (.ldN 12 (.tmp 24)), .call (some 26) none (.fn 26) [(.tmp 25)], .op (some 4) none (.mov (.tmp 26))] [1, 4]) (.seq (.run [.op (some 28) none (.fa 0 (.tmp 1)), .op (some 29) none (.ld1 (.tmp 28)), .op (some 30) none (.bin .eql (.tmp 29) (.const (.int .u8 2))), .op (some 31) none (.mov (.tmp 30)), .op (some 32) (some (31, true)) (.mov (.tmp 3)), .op (some 33) none (.pick (.tmp 31) (.tmp 32) (.const (.bool false))), .op (some 27) none (.mov (.tmp 33))] [1, 4, 27]) (.cond (.tmp 27) (.run [.op (some 34) none (.fa 21 (.tmp 1)), .op (some 35) none (.ldN 16 (.tmp 34)), .call (some 36) none (.fn 27) [(.tmp 35)], .op (some 4) none (.mov (.tmp 36))] [1, 4]) .skip))))) (.seq (.seq (.run [.op (some 37) none (.mov (.tmp 4)), .op (some 38) none (.bin .eql (.tmp 37) (.const (.string ⟨#[]⟩)))] [1, 4, 38]) (.cond (.tmp 38) (.seq (.run [.op (some 2) none (.mov (.const (.string ⟨#[]⟩)))] [2]) .ret) .skip)) (.seq (.draw 11 [.op (some 39) none (.fa 0 (.tmp 1)), .op (some 40) none (.ld1 (.tmp 39)), .op (some 43) none (.fa 1 (.tmp 1)), .op (some 44) none (.slA 8 1 (.tmp 43) none none none), .op (some 45) none (.cvB (.tmp 44)), .op (some 47) none (.mov (.tmp 4)), .opA (some 41) none (.bsl 1 1 [(.int .u8 0)] [(0, 1, (.tmp 40))]) 2, .opR (some 42) none (.cvB (.tmp 41)) 2, .op (some 46) none (.bin .add (.tmp 42) (.tmp 45)), .op (some 48) none (.bin .add (.tmp 46) (.tmp 47)), .op (some 2) none (.mov (.tmp 48))] [2]) .ret))))))⟩
theorem ok10 : compF Try.prog 10 hi10 = some ir10 := by kernel_rfl
def hi11 : List Hint := [.keep [1], .keep [1, 6], .keep [2], .keep [1, 3], .keep [1, 3, 13], .keep [2], .keep [1, 3], .keep [1, 3, 24], .keep [1, 3, 24, 25], .keep [3], .keep [1, 3, 33], .keep [3], .keep [2]]
def ir11 : IFun := ⟨1, [.tmp 2], (.seq (.run [.op (some 1) none (.box (.tmp 0)), .op (some 2) none (.mov (.const (.string ⟨#[]⟩)))] [1]) (.seq (.seq (.run [.op (some 4) none (.ldN 8 (.tmp 1)), .call (some 5) none (.fn 28) [(.tmp 4)], .op (some 6) none (.un .not (.tmp 5))] [1, 6]) (.cond (.tmp 6) (.seq (.run [.op (some 2) none (.mov (.const (.string ⟨#[]⟩)))] [2]) .ret) .skip)) (.seq (.run [.op (some 7) none (.fa 0 (.tmp 1)), .op (some 8) none (.ld1 (.tmp 7)), .op (some 9) none (.bsl 1 1 [(.int .u8 0)] [(0, 1, (.tmp 8))]), .op (some 10) none (.cvB (.tmp 9)), .op (some 3) none (.mov (.tmp 10))] [1, 3]) (.seq (.seq (.run [.op (some 11) none (.fa 0 (.tmp 1)), .op (some 12) none (.ld1 (.tmp 11)), .op (some 13) none (.bin .eql (.tmp 12) (.const (.int .u8 1)))] [1, 3, 13]) (.cond (.tmp 13) (.seq (.run [.op (some 14) none (.mov (.tmp 3)), .op (some 2) none (.mov (.tmp 14))] [2]) .ret) .skip)) (.seq (.run [.op (some 15) none (.mov (.tmp 3)), .op (some 16) none (.fa 1 (.tmp 1)), .op (some 17) none (.ld1 (.tmp 16)), .op (some 18) none (.fa 2 (.tmp 1)), .op (some 19) none (.ld1 (.tmp 18)), .op (some 20) none (.bsl 1 2 [(.int .u64 0), (.int .u64 0)] [(0, 1, (.tmp 17)), (1, 1, (.tmp 19))]), .call (some 21) none (.fn 29) [(.tmp 20)], .op (some 22) none (.bin .add (.tmp 15) (.tmp 21)), .op (some 3) none (.mov (.tmp 22))] [1, 3]) (.seq (.seq (.run [.op (some 23) none (.fa 0 (.tmp 1)), .op (some 24) none (.ld1 (.tmp 23))] [1, 3, 24]) (.block 0 (.seq (.run [.op (some 26) none (.bin .eql (.tmp 24) (.const (.int .u8 3))), .op (some 25) none (.mov (.tmp 26))] [1, 3, 24, 25]) (.cond (.tmp 25) (.run [.op (some 27) none (.mov (.tmp 3)), .op (some 28) none (.fa 3 (.tmp 1)), .op (some 29) none (.ld1 (.tmp 28)), .op (some 30) none (.bsl 1 1 [(.int .u8 0)] [(0, 1, (.tmp 29))]), .op (some 31) none (.cvB (.tmp 30)), .op (some 32) none (.bin .add (.tmp 27) (.tmp 31)), .op (some 3) none (.mov (.tmp 32))] [3]) (.seq (.run [.op (some 34) none (.bin .eql (.tmp 24) (.const (.int .u8 6))), .op (some 33) none (.mov (.tmp 34))] [1, 3, 33]) (.cond (.tmp 33) (.run [.op (some 35) none (.mov (.tmp 3)), .op (some 36) none (.fa 4 (.tmp 1)), .op (some 37) none (.ldN 4 (.tmp 36)), .call (some 38) none (.fn 30) [(.tmp 37)], .op (some 39) none (.bin .add (.tmp 35) (.tmp 38)), .op (some 3) none (.mov (.tmp 39))] [3]) .skip)))))) (.seq (.run [.op (some 40) none (.mov (.tmp 3)), .op (some 2) none (.mov (.tmp 40))] [2]) .ret)))))))⟩
theorem ok11 : compF Try.prog 11 hi11 = some ir11 := by kernel_rfl
def hi12 : List Hint := [.keep [0], .keep [0]]
def ir12 : IFun := ⟨0, [.cell 0 (some 37)], (.seq (.run [.op (some 0) none (.new [(.int .u8 0), (.int .u8 0), (.int .u8 0), (.int .u8 0), (.int .u8 0), (.int .u8 0), (.int .u8 0), (.int .u8 0), (.int .u8 0), (.int .u8 0), (.int .u64 0), (.int .u64 0), (.string ⟨#[]⟩), (.string ⟨#[]⟩), (.string ⟨#[]⟩), (.string ⟨#[]⟩), (.string ⟨#[]⟩), (.int .u8 0), (.int .u64 0), (.int .u64 0), (.slice none 0 0), (.int .u8 0), (.int .u8 0), (.int .u8 0), (.int .u8 0), (.int .u8 0), (.int .u8 0), (.int .u8 0), (.int .u8 0), (.int .u8 0), (.int .u8 0), (.int .u8 0), (.int .i64 0), (.int .i64 0), (.int .i64 0), (.int .i64 0), (.int .u8 0)])] [0]) (.seq (.run [.call (some 1) none (.fn 31) [], .op (some 2) none (.build [(.int .u8 0), (.int .u64 0), (.int .u64 0), (.string ⟨#[]⟩), (.string ⟨#[]⟩), (.string ⟨#[]⟩), (.string ⟨#[]⟩), (.string ⟨#[]⟩), (.int .u8 0), (.int .u64 0), (.int .u64 0), (.slice none 0 0)] [(0, 1, (.const (.int .u8 8))), (3, 1, (.const (.string ⟨#[107]⟩)))]), .op (some 3) none (.build [(.int .u8 0), (.int .u8 0), (.int .u8 0), (.int .u8 0), (.int .u8 0), (.int .u8 0), (.int .u8 0), (.int .u8 0), (.int .u8 0), (.int .u8 0), (.int .u64 0), (.int .u64 0), (.string ⟨#[]⟩), (.string ⟨#[]⟩), (.string ⟨#[]⟩), (.string ⟨#[]⟩), (.string ⟨#[]⟩), (.int .u8 0), (.int .u64 0), (.int .u64 0), (.slice none 0 0), (.int .u8 0), (.int .u8 0), (.int .u8 0), (.int .u8 0), (.int .u8 0), (.int .u8 0), (.int .u8 0), (.int .u8 0), (.int .u8 0), (.int .u8 0), (.int .u8 0), (.int .i64 0), (.int .i64 0), (.int .i64 0), (.int .i64 0), (.int .u8 0)] [(0, 1, (.const (.int .u8 1))), (1, 8, (.tmp 1)), (9, 12, (.tmp 2))]), .op none none (.st 37 (.tmp 0) (.tmp 3))] [0]) .ret))⟩
theorem ok12 : compF Try.prog 12 hi12 = some ir12 := by kernel_rfl
def hi13 : List Hint := [.keep [0, 2], .keep [0, 2, 8], .keep [2, 3], .keep [0, 2, 4], .draw [.op 0, .op 1, .op 2, .op 3, .op 4] [0, 2, 4], .keep [0, 2, 4, 5], .keep [0, 2, 4, 5, 19], .keep [0, 2, 4, 5, 19, 20], .keep [2, 4, 5], .keep [0, 2, 4, 5, 29], .keep [2, 4, 5], .keep [2, 4, 39], .keep [2, 3], .keep [2, 3]]
def ir13 : IFun := ⟨1, [.cell 2 (some 37), .tmp 3], (.seq (.run [.op (some 2) none (.new [(.int .u8 0), (.int .u8 0), (.int .u8 0), (.int .u8 0), (.int .u8 0), (.int .u8 0), (.int .u8 0), (.int .u8 0), (.int .u8 0), (.int .u8 0), (.int .u64 0), (.int .u64 0), (.string ⟨#[]⟩), (.string ⟨#[]⟩), (.string ⟨#[]⟩), (.string ⟨#[]⟩), (.string ⟨#[]⟩), (.int .u8 0), (.int .u64 0), (.int .u64 0), (.slice none 0 0), (.int .u8 0), (.int .u8 0), (.int .u8 0), (.int .u8 0), (.int .u8 0), (.int .u8 0), (.int .u8 0), (.int .u8 0), (.int .u8 0), (.int .u8 0), (.int .u8 0), (.int .i64 0), (.int .i64 0), (.int .i64 0), (.int .i64 0), (.int .u8 0)]), .op (some 3) none (.mov (.const (.bool false)))] [0, 2]) (.seq (.seq (.run [.op (some 6) none (.mov (.tmp 0)), .op (some 7) none (.lenS (.tmp 6)), .op (some 8) none (.bin .lss (.tmp 7) (.const (.int .i64 9)))] [0, 2, 8]) (.cond (.tmp 8) (.seq (.run [.op (some 9) none (.build [(.int .u8 0), (.int .u8 0), (.int .u8 0), (.int .u8 0), (.int .u8 0), (.int .u8 0), (.int .u8 0), (.int .u8 0), (.int .u8 0), (.int .u8 0), (.int .u64 0), (.int .u64 0), (.string ⟨#[]⟩), (.string ⟨#[]⟩), (.string ⟨#[]⟩), (.string ⟨#[]⟩), (.string ⟨#[]⟩), (.int .u8 0), (.int .u64 0), (.int .u64 0), (.slice none 0 0), (.int .u8 0), (.int .u8 0), (.int .u8 0), (.int .u8 0), (.int .u8 0), (.int .u8 0), (.int .u8 0), (.int .u8 0), (.int .u8 0), (.int .u8 0), (.int .u8 0), (.int .i64 0), (.int .i64 0), (.int .i64 0), (.int .i64 0), (.int .u8 0)] []), .op none none (.st 37 (.tmp 2) (.tmp 9)), .op (some 3) none (.mov (.const (.bool false)))] [2, 3]) .ret) .skip)) (.seq (.run [.op (some 10) none (.mov (.tmp 0)), .op (some 11) none (.ixS (.tmp 10) (.const (.int .i64 0))), .op (some 12) none (.build [(.int .u8 0), (.int .u8 0), (.int .u8 0), (.int .u8 0), (.int .u8 0), (.int .u8 0), (.int .u8 0), (.int .u8 0), (.int .u8 0), (.int .u8 0), (.int .u64 0), (.int .u64 0), (.string ⟨#[]⟩), (.string ⟨#[]⟩), (.string ⟨#[]⟩), (.string ⟨#[]⟩), (.string ⟨#[]⟩), (.int .u8 0), (.int .u64 0), (.int .u64 0), (.slice none 0 0), (.int .u8 0), (.int .u8 0), (.int .u8 0), (.int .u8 0), (.int .u8 0), (.int .u8 0), (.int .u8 0), (.int .u8 0), (.int .u8 0), (.int .u8 0), (.int .u8 0), (.int .i64 0), (.int .i64 0), (.int .i64 0), (.int .i64 0), (.int .u8 0)] [(0, 1, (.tmp 11))]), .op (some 4) none (.new [(.int .u8 0), (.int .u8 0), (.int .u8 0), (.int .u8 0), (.int .u8 0), (.int .u8 0), (.int .u8 0), (.int .u8 0), (.int .u8 0), (.int .u8 0), (.int .u64 0), (.int .u64 0), (.string ⟨#[]⟩), (.string ⟨#[]⟩), (.string ⟨#[]⟩), (.string ⟨#[]⟩), (.string ⟨#[]⟩), (.int .u8 0), (.int .u64 0), (.int .u64 0), (.slice none 0 0), (.int .u8 0), (.int .u8 0), (.int .u8 0), (.int .u8 0), (.int .u8 0), (.int .u8 0), (.int .u8 0), (.int .u8 0), (.int .u8 0), (.int .u8 0), (.int .u8 0), (.int .i64 0), (.int .i64 0), (.int .i64 0), (.int .i64 0), (.int .u8 0)]), .op none none (.st 37 (.tmp 4) (.tmp 12))] [0, 2, 4]) (.seq (.draw 5 [.op (some 13) none (.fa 1 (.tmp 4)), .op (some 14) none (.slA 8 1 (.tmp 13) none none none), .op (some 15) none (.mov (.tmp 0)), .op (some 16) none (.slS (.tmp 15) (some (.const (.int .i64 1))) none), .op (some 17) none (.cpy 1 (.tmp 14) (.tmp 16))] [0, 2, 4]) (.seq (.run [.op (some 5) none (.mov (.const (.bool false)))] [0, 2, 4, 5]) (.seq (.seq (.run [.op (some 18) none (.fa 0 (.tmp 4)), .op (some 19) none (.ld1 (.tmp 18))] [0, 2, 4, 5, 19]) (.block 0 (.seq (.run [.op (some 21) none (.bin .eql (.tmp 19) (.const (.int .u8 1))), .op (some 20) none (.mov (.tmp 21))] [0, 2, 4, 5, 19, 20]) (.cond (.tmp 20) (.run [.op (some 23) none (.mov (.tmp 0)), .op (some 24) none (.slS (.tmp 23) (some (.const (.int .i64 9))) none), .call (some 25) none (.fn 32) [(.tmp 24)], .op (some 22) none (.mov (.tmp 25)), .op (some 26) none (.ext (.tmp 22) 0), .op (some 27) none (.ext (.tmp 22) 1), .op (some 28) none (.fa 9 (.tmp 4)), .op none none (.st 12 (.tmp 28) (.tmp 26)), .op (some 5) none (.mov (.tmp 27))] [2, 4, 5]) (.seq (.run [.op (some 30) none (.bin .eql (.tmp 19) (.const (.int .u8 2))), .op (some 29) none (.mov (.tmp 30))] [0, 2, 4, 5, 29]) (.cond (.tmp 29) (.run [.op (some 32) none (.mov (.tmp 0)), .op (some 33) none (.slS (.tmp 32) (some (.const (.int .i64 9))) none), .call (some 34) none (.fn 33) [(.tmp 33)], .op (some 31) none (.mov (.tmp 34)), .op (some 35) none (.ext (.tmp 31) 0), .op (some 36) none (.ext (.tmp 31) 1), .op (some 37) none (.fa 21 (.tmp 4)), .op none none (.st 16 (.tmp 37) (.tmp 35)), .op (some 5) none (.mov (.tmp 36))] [2, 4, 5]) .skip)))))) (.seq (.seq (.run [.op (some 38) none (.mov (.tmp 5)), .op (some 39) none (.un .not (.tmp 38))] [2, 4, 39]) (.cond (.tmp 39) (.seq (.run [.op (some 40) none (.build [(.int .u8 0), (.int .u8 0), (.int .u8 0), (.int .u8 0), (.int .u8 0), (.int .u8 0), (.int .u8 0), (.int .u8 0), (.int .u8 0), (.int .u8 0), (.int .u64 0), (.int .u64 0), (.string ⟨#[]⟩), (.string ⟨#[]⟩), (.string ⟨#[]⟩), (.string ⟨#[]⟩), (.string ⟨#[]⟩), (.int .u8 0), (.int .u64 0), (.int .u64 0), (.slice none 0 0), (.int .u8 0), (.int .u8 0), (.int .u8 0), (.int .u8 0), (.int .u8 0), (.int .u8 0), (.int .u8 0), (.int .u8 0), (.int .u8 0), (.int .u8 0), (.int .u8 0), (.int .i64 0), (.int .i64 0), (.int .i64 0), (.int .i64 0), (.int .u8 0)] []), .op none none (.st 37 (.tmp 2) (.tmp 40)), .op (some 3) none (.mov (.const (.bool false)))] [2, 3]) .ret) .skip)) (.seq (.run [.op (some 41) none (.ldN 37 (.tmp 4)), .op none none (.st 37 (.tmp 2) (.tmp 41)), .op (some 3) none (.mov (.const (.bool true)))] [2, 3]) .ret))))))))⟩
theorem ok13 : compF Try.prog 13 hi13 = some ir13 := by kernel_rfl
end Go.Proofs.Yteikngjiaboeaaa.IrAll
namespace Go.Proofs.Yteikngjiaboeaaa.IrAll
open Go Go.Proofs.Yteikngjiaboeaaa.Am
def hi14 : List Hint := [.keep [0, 2], .keep [0, 2, 13], .keep [2, 3], .keep [0, 2, 4], .keep [0, 2, 4, 5], .keep [0, 2, 4, 5, 22], .keep [0, 2, 4, 5, 6, 7], .keep [0, 2, 4, 5, 6, 7, 9, 10], .draw [.op 0, .op 1, .op 2, .op 3, .op 4, .op 5, .op 6, .op 7, .op 8, .op 9, .op 10, .op 11] [0, 2, 4, 5], .keep [0, 2, 4, 5, 46], .keep [0, 2, 4], .keep [0, 2, 4, 5, 57], .keep [0, 2, 4], .keep [2, 4, 70], .keep [2, 3], .keep [2, 3]]
def ir14 : IFun := ⟨1, [.cell 2 (some 8), .tmp 3], (.seq (.run [.op (some 2) none (.new [(.int .u8 0), (.int .u64 0), (.int .u64 0), (.int .u8 0), (.int .u8 0), (.int .u64 0), (.string ⟨#[]⟩), (.slice none 0 0)]), .op (some 3) none (.mov (.const (.bool false)))] [0, 2]) (.seq (.seq (.run [.op (some 12) none (.mov (.tmp 0)), .op (some 13) none (.bin .eql (.tmp 12) (.const (.string ⟨#[]⟩)))] [0, 2, 13]) (.cond (.tmp 13) (.seq (.run [.op (some 14) none (.build [(.int .u8 0), (.int .u64 0), (.int .u64 0), (.int .u8 0), (.int .u8 0), (.int .u64 0), (.string ⟨#[]⟩), (.slice none 0 0)] []), .op none none (.st 8 (.tmp 2) (.tmp 14)), .op (some 3) none (.mov (.const (.bool false)))] [2, 3]) .ret) .skip)) (.seq (.run [.op (some 15) none (.mov (.tmp 0)), .op (some 16) none (.ixS (.tmp 15) (.const (.int .i64 0))), .op (some 17) none (.build [(.int .u8 0), (.int .u64 0), (.int .u64 0), (.int .u8 0), (.int .u8 0), (.int .u64 0), (.string ⟨#[]⟩), (.slice none 0 0)] [(0, 1, (.tmp 16))]), .op (some 4) none (.new [(.int .u8 0), (.int .u64 0), (.int .u64 0), (.int .u8 0), (.int .u8 0), (.int .u64 0), (.string ⟨#[]⟩), (.slice none 0 0)]), .op none none (.st 8 (.tmp 4) (.tmp 17))] [0, 2, 4]) (.seq (.run [.op (some 18) none (.mov (.tmp 0)), .op (some 19) none (.slS (.tmp 18) (some (.const (.int .i64 1))) none), .op (some 5) none (.mov (.tmp 19))] [0, 2, 4, 5]) (.seq (.seq (.run [.op (some 20) none (.fa 0 (.tmp 4)), .op (some 21) none (.ld1 (.tmp 20)), .op (some 22) none (.bin .neq (.tmp 21) (.const (.int .u8 1)))] [0, 2, 4, 5, 22]) (.cond (.tmp 22) (.seq (.run [.op (some 24) none (.mov (.tmp 5)), .call (some 25) none (.fn 34) [(.tmp 24)], .op (some 23) none (.mov (.tmp 25)), .op (some 26) none (.ext (.tmp 23) 0), .op (some 27) none (.ext (.tmp 23) 1), .op (some 28) none (.ext (.tmp 23) 2), .op (some 6) none (.mov (.tmp 26)), .op (some 7) none (.mov (.tmp 27)), .op (some 8) none (.mov (.tmp 28))] [0, 2, 4, 5, 6, 7]) (.seq (.run [.op (some 30) none (.mov (.tmp 5)), .op (some 31) none (.mov (.tmp 7)), .op (some 32) none (.slS (.tmp 30) (some (.tmp 31)) none), .call (some 33) none (.fn 34) [(.tmp 32)], .op (some 29) none (.mov (.tmp 33)), .op (some 34) none (.ext (.tmp 29) 0), .op (some 35) none (.ext (.tmp 29) 1), .op (some 36) none (.ext (.tmp 29) 2), .op (some 9) none (.mov (.tmp 34)), .op (some 10) none (.mov (.tmp 35)), .op (some 11) none (.mov (.tmp 36))] [0, 2, 4, 5, 6, 7, 9, 10]) (.draw 12 [.op (some 37) none (.mov (.tmp 6)), .op (some 38) none (.mov (.tmp 9)), .op (some 39) none (.mov (.tmp 5)), .op (some 40) none (.mov (.tmp 7)), .op (some 41) none (.mov (.tmp 10)), .op (some 42) none (.bin .add (.tmp 40) (.tmp 41)), .op (some 43) none (.slS (.tmp 39) (some (.tmp 42)) none), .op (some 44) none (.fa 1 (.tmp 4)), .op none none (.st 1 (.tmp 44) (.tmp 37)), .op (some 45) none (.fa 2 (.tmp 4)), .op none none (.st 1 (.tmp 45) (.tmp 38)), .op (some 5) none (.mov (.tmp 43))] [0, 2, 4, 5]))) .skip)) (.seq (.block 0 (.seq (.run [.op (some 47) none (.fa 0 (.tmp 4)), .op (some 48) none (.ld1 (.tmp 47)), .op (some 49) none (.bin .eql (.tmp 48) (.const (.int .u8 3))), .op (some 50) none (.mov (.tmp 49)), .op (some 51) (some (50, true)) (.mov (.tmp 5)), .op (some 52) (some (50, true)) (.bin .neq (.tmp 51) (.const (.string ⟨#[]⟩))), .op (some 53) none (.pick (.tmp 50) (.tmp 52) (.const (.bool false))), .op (some 46) none (.mov (.tmp 53))] [0, 2, 4, 5, 46]) (.cond (.tmp 46) (.run [.op (some 54) none (.mov (.tmp 5)), .op (some 55) none (.ixS (.tmp 54) (.const (.int .i64 0))), .op (some 56) none (.fa 3 (.tmp 4)), .op none none (.st 1 (.tmp 56) (.tmp 55))] [0, 2, 4]) (.seq (.run [.op (some 58) none (.fa 0 (.tmp 4)), .op (some 59) none (.ld1 (.tmp 58)), .op (some 60) none (.bin .eql (.tmp 59) (.const (.int .u8 6))), .op (some 57) none (.mov (.tmp 60))] [0, 2, 4, 5, 57]) (.cond (.tmp 57) (.run [.op (some 62) none (.mov (.tmp 5)), .call (some 63) none (.fn 35) [(.tmp 62)], .op (some 61) none (.mov (.tmp 63)), .op (some 64) none (.ext (.tmp 61) 0), .op (some 65) none (.ext (.tmp 61) 1), .op (some 66) none (.fa 4 (.tmp 4)), .op none none (.st 4 (.tmp 66) (.tmp 64))] [0, 2, 4]) .skip))))) (.seq (.seq (.run [.op (some 67) none (.ldN 8 (.tmp 4)), .call (some 68) none (.fn 11) [(.tmp 67)], .op (some 69) none (.mov (.tmp 0)), .op (some 70) none (.bin .neq (.tmp 68) (.tmp 69))] [2, 4, 70]) (.cond (.tmp 70) (.seq (.run [.op (some 71) none (.build [(.int .u8 0), (.int .u64 0), (.int .u64 0), (.int .u8 0), (.int .u8 0), (.int .u64 0), (.string ⟨#[]⟩), (.slice none 0 0)] []), .op none none (.st 8 (.tmp 2) (.tmp 71)), .op (some 3) none (.mov (.const (.bool false)))] [2, 3]) .ret) .skip)) (.seq (.run [.op (some 72) none (.ldN 8 (.tmp 4)), .op none none (.st 8 (.tmp 2) (.tmp 72)), .op (some 3) none (.mov (.const (.bool true)))] [2, 3]) .ret))))))))⟩
theorem ok14 : compF Try.prog 14 hi14 = some ir14 := by kernel_rfl
def hi15 : List Hint := [.keep [], .keep [1, 2], .keep [1, 2, 3, 4], .draw [.op 0, .op 1, .op 2, .op 3, .op 4, .op 5, .op 6, .op 7, .op 8, .chk 7, .op 9, .op 10, .op 11, .op 12, .op 13, .op 14, .op 15, .op 16, .op 17, .op 18, .op 19, .op 20, .op 21, .op 22, .op 23, .op 24, .op 26, .op 25, .op 27, .op 28, .op 29] [0]]
def ir15 : IFun := ⟨0, [.tmp 0], (.seq (.run [.op (some 0) none (.mov (.const (.bool false)))] []) (.seq (.run [.call (some 6) none (.fn 12) [], .call (some 7) none (.fn 10) [(.tmp 6)], .call (some 8) none (.fn 13) [(.tmp 7)], .op (some 5) none (.mov (.tmp 8)), .op (some 9) none (.ext (.tmp 5) 0), .op (some 10) none (.ext (.tmp 5) 1), .op (some 1) none (.new [(.int .u8 0), (.int .u8 0), (.int .u8 0), (.int .u8 0), (.int .u8 0), (.int .u8 0), (.int .u8 0), (.int .u8 0), (.int .u8 0), (.int .u8 0), (.int .u64 0), (.int .u64 0), (.string ⟨#[]⟩), (.string ⟨#[]⟩), (.string ⟨#[]⟩), (.string ⟨#[]⟩), (.string ⟨#[]⟩), (.int .u8 0), (.int .u64 0), (.int .u64 0), (.slice none 0 0), (.int .u8 0), (.int .u8 0), (.int .u8 0), (.int .u8 0), (.int .u8 0), (.int .u8 0), (.int .u8 0), (.int .u8 0), (.int .u8 0), (.int .u8 0), (.int .u8 0), (.int .i64 0), (.int .i64 0), (.int .i64 0), (.int .i64 0), (.int .u8 0)]), .op none none (.st 37 (.tmp 1) (.tmp 9)), .op (some 2) none (.mov (.tmp 10))] [1, 2]) (.seq (.run [.call (some 12) none (.fn 14) [(.const (.string ⟨#[3, 1, 129, 0, 3]⟩))], .op (some 11) none (.mov (.tmp 12)), .op (some 13) none (.ext (.tmp 11) 0), .op (some 14) none (.ext (.tmp 11) 1), .op (some 3) none (.new [(.int .u8 0), (.int .u64 0), (.int .u64 0), (.int .u8 0), (.int .u8 0), (.int .u64 0), (.string ⟨#[]⟩), (.slice none 0 0)]), .op none none (.st 8 (.tmp 3) (.tmp 13)), .op (some 4) none (.mov (.tmp 14))] [1, 2, 3, 4]) (.seq (.draw 30 [.call (some 15) none (.fn 12) [], .call (some 16) none (.fn 10) [(.tmp 15)], .op (some 17) none (.bin .eql (.tmp 16) (.const (.string ⟨#[1, 49, 50, 51, 52, 53, 54, 55, 56, 8, 0, 0, 1, 107]⟩))), .op (some 18) none (.mov (.tmp 17)), .op (some 19) (some (18, true)) (.mov (.tmp 2)), .op (some 20) none (.pick (.tmp 18) (.tmp 19) (.const (.bool false))), .op (some 21) none (.mov (.tmp 20)), .op (some 22) (some (21, true)) (.ldN 37 (.tmp 1)), .call (some 23) (some (21, true)) (.fn 12) [], .chk 22 (some (21, true)) (.ldN 37 (.tmp 1)), .call (some 24) (some (21, true)) (.fn 22) [(.tmp 22), (.tmp 23)], .op (some 25) none (.pick (.tmp 21) (.tmp 24) (.const (.bool false))), .op (some 26) none (.mov (.tmp 25)), .op (some 27) (some (26, true)) (.mov (.tmp 4)), .op (some 28) none (.pick (.tmp 26) (.tmp 27) (.const (.bool false))), .op (some 29) none (.mov (.tmp 28)), .op (some 30) (some (29, true)) (.fa 3 (.tmp 3)), .op (some 31) (some (29, true)) (.ld1 (.tmp 30)), .op (some 32) (some (29, true)) (.bin .eql (.tmp 31) (.const (.int .u8 3))), .op (some 33) none (.pick (.tmp 29) (.tmp 32) (.const (.bool false))), .op (some 34) none (.mov (.tmp 33)), .op (some 35) (some (34, true)) (.fa 2 (.tmp 3)), .op (some 36) (some (34, true)) (.ld1 (.tmp 35)), .op (some 37) (some (34, true)) (.bin .eql (.tmp 36) (.const (.int .u64 128))), .op (some 38) none (.pick (.tmp 34) (.tmp 37) (.const (.bool false))), .op (some 39) none (.mov (.tmp 38)), .op (some 41) (some (39, true)) (.build [(.int .u8 0), (.int .u8 0), (.int .u8 0), (.int .u8 0), (.int .u8 0), (.int .u8 0), (.int .u8 0), (.int .u8 0)] [(0, 1, (.const (.int .u8 111))), (1, 1, (.const (.int .u8 112))), (2, 1, (.const (.int .u8 101))), (3, 1, (.const (.int .u8 114))), (4, 1, (.const (.int .u8 97))), (5, 1, (.const (.int .u8 116))), (6, 1, (.const (.int .u8 111))), (7, 1, (.const (.int .u8 114)))]), .call (some 40) (some (39, true)) (.fn 9) [], .op (some 42) (some (39, true)) (.eqq false (.agg [(0, 1), (1, 1), (2, 1), (3, 1), (4, 1), (5, 1), (6, 1), (7, 1)]) (.tmp 40) (.tmp 41)), .op (some 43) none (.pick (.tmp 39) (.tmp 42) (.const (.bool false))), .op (some 0) none (.mov (.tmp 43))] [0]) .ret))))⟩
theorem ok15 : compF Try.prog 15 hi15 = some ir15 := by kernel_rfl
def hi16 : List Hint := [.keep [1], .keep [2]]
def ir16 : IFun := ⟨1, [.tmp 2], (.seq (.run [.op (some 1) none (.box (.tmp 0)), .op (some 2) none (.mov (.const (.bool false)))] [1]) (.seq (.run [.op (some 3) none (.fa 9 (.tmp 1)), .op (some 4) none (.ldN 12 (.tmp 3)), .call (some 5) none (.fn 36) [(.tmp 4)], .op (some 2) none (.mov (.tmp 5))] [2]) .ret))⟩
theorem ok16 : compF Try.prog 16 hi16 = some ir16 := by kernel_rfl
def hi22 : List Hint := [.keep [2, 3], .keep [4]]
def ir22 : IFun := ⟨2, [.tmp 4], (.seq (.run [.op (some 2) none (.box (.tmp 0)), .op (some 3) none (.box (.tmp 1)), .op (some 4) none (.mov (.const (.bool false)))] [2, 3]) (.seq (.run [.op (some 5) none (.fa 0 (.tmp 2)), .op (some 6) none (.ld1 (.tmp 5)), .op (some 7) none (.fa 0 (.tmp 3)), .op (some 8) none (.ld1 (.tmp 7)), .op (some 9) none (.bin .eql (.tmp 6) (.tmp 8)), .op (some 10) none (.mov (.tmp 9)), .op (some 11) (some (10, true)) (.fa 1 (.tmp 2)), .op (some 12) (some (10, true)) (.ldN 8 (.tmp 11)), .op (some 13) (some (10, true)) (.fa 1 (.tmp 3)), .op (some 14) (some (10, true)) (.ldN 8 (.tmp 13)), .op (some 15) (some (10, true)) (.eqq false (.agg [(0, 1), (1, 1), (2, 1), (3, 1), (4, 1), (5, 1), (6, 1), (7, 1)]) (.tmp 12) (.tmp 14)), .op (some 16) none (.pick (.tmp 10) (.tmp 15) (.const (.bool false))), .op (some 17) none (.mov (.tmp 16)), .op (some 18) (some (17, true)) (.fa 21 (.tmp 2)), .op (some 19) (some (17, true)) (.ldN 16 (.tmp 18)), .op (some 20) (some (17, true)) (.fa 21 (.tmp 3)), .op (some 21) (some (17, true)) (.ldN 16 (.tmp 20)), .op (some 22) (some (17, true)) (.eqq false (.agg [(0, 1), (1, 1), (2, 1), (3, 1), (4, 1), (5, 1), (6, 1), (7, 1), (8, 1), (9, 1), (10, 1), (11, 1), (12, 1), (13, 1), (14, 1), (15, 1)]) (.tmp 19) (.tmp 21)), .op (some 23) none (.pick (.tmp 17) (.tmp 22) (.const (.bool false))), .op (some 24) none (.mov (.tmp 23)), .op (some 25) (some (24, true)) (.fa 9 (.tmp 2)), .op (some 26) (some (24, true)) (.ldN 12 (.tmp 25)), .op (some 27) (some (24, true)) (.fa 9 (.tmp 3)), .op (some 28) (some (24, true)) (.ldN 12 (.tmp 27)), .call (some 29) (some (24, true)) (.fn 39) [(.tmp 26), (.tmp 28)], .op (some 30) none (.pick (.tmp 24) (.tmp 29) (.const (.bool false))), .op (some 4) none (.mov (.tmp 30))] [4]) .ret))⟩
theorem ok22 : compF Try.prog 22 hi22 = some ir22 := by kernel_rfl
def hi24 : List Hint := [.keep [2, 3, 4], .keep [2, 3, 4, 5], .keep [2, 4, 6], .keep [2, 4, 6, 11], .keep [2, 4, 6, 11, 12], .keep [2, 4], .keep [2, 4, 6, 11, 20], .keep [2, 4, 6, 11, 20], .keep [2, 4], .keep [2, 4, 6, 11, 26], .keep [2, 4], .keep [2, 4, 6, 11, 37], .keep [2, 4], .keep [2, 4, 6, 45], .keep [2, 4, 6, 7], .keep [2, 4, 6, 7, 8], .keep [2, 4, 6, 7, 8], .keep [2, 4, 6, 7, 8, 54], .keep [2, 4, 6, 7, 8], .keep [2, 4, 6, 7, 8, 68], .keep [2, 4, 6, 7, 8], .keep [2, 4, 6, 7, 8], .keep [2, 4], .keep [4]]
def ir24 : IFun := ⟨2, [.cell 4 (some 12)], (.seq (.run [.op (some 2) none (.box (.tmp 0)), .op (some 3) none (.box (.tmp 1)), .op (some 4) none (.new [(.int .u8 0), (.int .u64 0), (.int .u64 0), (.string ⟨#[]⟩), (.string ⟨#[]⟩), (.string ⟨#[]⟩), (.string ⟨#[]⟩), (.string ⟨#[]⟩), (.int .u8 0), (.int .u64 0), (.int .u64 0), (.slice none 0 0)])] [2, 3, 4]) (.seq (.run [.op (some 5) none (.new [(.int .i64 0)]), .op none none (.st 1 (.tmp 5) (.const (.int .i64 0)))] [2, 3, 4, 5]) (.seq (.run [.op (some 9) none (.mkF (.func 50) [] [(.tmp 5), (.tmp 3)]), .op (some 6) none (.mov (.tmp 9))] [2, 4, 6]) (.seq (.seq (.run [.op (some 10) none (.fa 0 (.tmp 2)), .op (some 11) none (.ld1 (.tmp 10))] [2, 4, 6, 11]) (.block 0 (.seq (.run [.op (some 13) none (.bin .eql (.tmp 11) (.const (.int .u8 2))), .op (some 12) none (.mov (.tmp 13))] [2, 4, 6, 11, 12]) (.cond (.tmp 12) (.run [.op (some 14) none (.mov (.tmp 6)), .call (some 15) none (.val (.tmp 14)) [], .op (some 16) none (.mov (.tmp 6)), .call (some 17) none (.val (.tmp 16)) [], .op (some 18) none (.fa 3 (.tmp 2)), .op none none (.st 1 (.tmp 18) (.tmp 15)), .op (some 19) none (.fa 4 (.tmp 2)), .op none none (.st 1 (.tmp 19) (.tmp 17))] [2, 4]) (.seq (.seq (.run [.op (some 21) none (.bin .eql (.tmp 11) (.const (.int .u8 3))), .op (some 20) none (.mov (.tmp 21))] [2, 4, 6, 11, 20]) (.cond (.tmp 20) .skip (.run [.op (some 22) none (.bin .eql (.tmp 11) (.const (.int .u8 8))), .op (some 20) none (.mov (.tmp 22))] [2, 4, 6, 11, 20]))) (.cond (.tmp 20) (.run [.op (some 23) none (.mov (.tmp 6)), .call (some 24) none (.val (.tmp 23)) [], .op (some 25) none (.fa 3 (.tmp 2)), .op none none (.st 1 (.tmp 25) (.tmp 24))] [2, 4]) (.seq (.run [.op (some 27) none (.bin .eql (.tmp 11) (.const (.int .u8 4))), .op (some 26) none (.mov (.tmp 27))] [2, 4, 6, 11, 26]) (.cond (.tmp 26) (.run [.op (some 28) none (.mov (.tmp 6)), .call (some 29) none (.val (.tmp 28)) [], .op (some 30) none (.mov (.tmp 6)), .call (some 31) none (.val (.tmp 30)) [], .op (some 32) none (.mov (.tmp 6)), .call (some 33) none (.val (.tmp 32)) [], .op (some 34) none (.fa 3 (.tmp 2)), .op none none (.st 1 (.tmp 34) (.tmp 29)), .op (some 35) none (.fa 5 (.tmp 2)), .op none none (.st 1 (.tmp 35) (.tmp 31)), .op (some 36) none (.fa 4 (.tmp 2)), .op none none (.st 1 (.tmp 36) (.tmp 33))] [2, 4]) (.seq (.run [.op (some 38) none (.bin .eql (.tmp 11) (.const (.int .u8 9))), .op (some 37) none (.mov (.tmp 38))] [2, 4, 6, 11, 37]) (.cond (.tmp 37) (.run [.op (some 39) none (.mov (.tmp 6)), .call (some 40) none (.val (.tmp 39)) [], .op (some 41) none (.mov (.tmp 6)), .call (some 42) none (.val (.tmp 41)) [], .op (some 43) none (.fa 6 (.tmp 2)), .op none none (.st 1 (.tmp 43) (.tmp 40)), .op (some 44) none (.fa 7 (.tmp 2)), .op none none (.st 1 (.tmp 44) (.tmp 42))] [2, 4]) (.seq (.run [.op (some 46) none (.bin .eql (.tmp 11) (.const (.int .u8 5))), .op (some 45) none (.mov (.tmp 46))] [2, 4, 6, 45]) (.cond (.tmp 45) (.seq (.run [.op (some 47) none (.bsl 3 0 [] []), .op (some 48) none (.fa 11 (.tmp 2)), .op (some 49) none (.ld1 (.tmp 48)), .op (some 50) none (.app 3 40 (.tmp 47) (.tmp 49)), .op (some 7) none (.mov (.tmp 50))] [2, 4, 6, 7]) (.seq (.seq (.run [.op (some 8) none (.mov (.const (.int .i64 0)))] [2, 4, 6, 7, 8]) (.block 1 (.loop [2, 4, 6, 7, 8] (.seq (.seq (.run [.op (some 51) none (.mov (.tmp 8)), .op (some 52) none (.mov (.tmp 7)), .op (some 53) none (.lenV (.tmp 52)), .op (some 54) none (.bin .lss (.tmp 51) (.tmp 53))] [2, 4, 6, 7, 8, 54]) (.cond (.tmp 54) .skip (.exit 1))) (.seq (.block 2 (.seq (.run [.op (some 57) none (.mov (.tmp 7)), .op (some 58) none (.mov (.tmp 8)), .op (some 59) none (.mov (.tmp 6)), .call (some 60) none (.val (.tmp 59)) [], .op (some 61) none (.iaV 3 (.tmp 57) (.tmp 58)), .op (some 62) none (.fa 1 (.tmp 61)), .op none none (.st 1 (.tmp 62) (.tmp 60))] [2, 4, 6, 7, 8]) (.seq (.run [.op (some 63) none (.mov (.tmp 7)), .op (some 64) none (.mov (.tmp 8)), .op (some 65) none (.iaV 3 (.tmp 63) (.tmp 64)), .op (some 66) none (.fa 0 (.tmp 65)), .op (some 67) none (.ld1 (.tmp 66)), .op (some 68) none (.bin .eql (.tmp 67) (.const (.int .u8 2)))] [2, 4, 6, 7, 8, 68]) (.cond (.tmp 68) (.run [.op (some 69) none (.mov (.tmp 7)), .op (some 70) none (.mov (.tmp 8)), .op (some 71) none (.mov (.tmp 6)), .call (some 72) none (.val (.tmp 71)) [], .op (some 73) none (.iaV 3 (.tmp 69) (.tmp 70)), .op (some 74) none (.fa 2 (.tmp 73)), .op none none (.st 1 (.tmp 74) (.tmp 72))] [2, 4, 6, 7, 8]) .skip)))) (.run [.op (some 55) none (.mov (.tmp 8)), .op (some 56) none (.bin .add (.tmp 55) (.const (.int .i64 1))), .op (some 8) none (.mov (.tmp 56))] [2, 4, 6, 7, 8])))))) (.run [.op (some 75) none (.mov (.tmp 7)), .op (some 76) none (.fa 11 (.tmp 2)), .op none none (.st 1 (.tmp 76) (.tmp 75))] [2, 4]))) .skip)))))))))))) (.seq (.run [.op (some 77) none (.ldN 12 (.tmp 2)), .op none none (.st 12 (.tmp 4) (.tmp 77))] [4]) .ret)))))⟩
theorem ok24 : compF Try.prog 24 hi24 = some ir24 := by kernel_rfl
def hi25 : List Hint := [.keep [1], .keep [1, 28], .keep [2], .keep [2]]
def ir25 : IFun := ⟨1, [.tmp 2], (.seq (.run [.op (some 1) none (.box (.tmp 0)), .op (some 2) none (.mov (.const (.bool false)))] [1]) (.seq (.seq (.run [.op (some 3) none (.fa 3 (.tmp 1)), .op (some 4) none (.ld1 (.tmp 3)), .op (some 5) none (.fa 4 (.tmp 1)), .op (some 6) none (.ld1 (.tmp 5)), .op (some 7) none (.bin .add (.tmp 4) (.tmp 6)), .op (some 8) none (.fa 5 (.tmp 1)), .op (some 9) none (.ld1 (.tmp 8)), .op (some 10) none (.bin .add (.tmp 7) (.tmp 9)), .op (some 11) none (.fa 6 (.tmp 1)), .op (some 12) none (.ld1 (.tmp 11)), .op (some 13) none (.bin .add (.tmp 10) (.tmp 12)), .op (some 14) none (.fa 7 (.tmp 1)), .op (some 15) none (.ld1 (.tmp 14)), .op (some 16) none (.bin .add (.tmp 13) (.tmp 15)), .op (some 17) none (.bin .neq (.tmp 16) (.const (.string ⟨#[]⟩))), .op (some 18) none (.mov (.tmp 17)), .op (some 19) (some (18, false)) (.fa 11 (.tmp 1)), .op (some 20) (some (18, false)) (.ld1 (.tmp 19)), .op (some 21) (some (18, false)) (.lenV (.tmp 20)), .op (some 22) (some (18, false)) (.bin .gtr (.tmp 21) (.const (.int .i64 0))), .op (some 23) none (.pick (.tmp 18) (.const (.bool true)) (.tmp 22)), .op (some 24) none (.mov (.tmp 23)), .op (some 25) (some (24, false)) (.fa 8 (.tmp 1)), .op (some 26) (some (24, false)) (.ld1 (.tmp 25)), .op (some 27) (some (24, false)) (.bin .neq (.tmp 26) (.const (.int .u8 0))), .op (some 28) none (.pick (.tmp 24) (.const (.bool true)) (.tmp 27))] [1, 28]) (.cond (.tmp 28) (.seq (.run [.op (some 2) none (.mov (.const (.bool false)))] [2]) .ret) .skip)) (.seq (.run [.op (some 29) none (.fa 1 (.tmp 1)), .op (some 30) none (.ld1 (.tmp 29)), .op (some 31) none (.fa 2 (.tmp 1)), .op (some 32) none (.ld1 (.tmp 31)), .op (some 33) none (.bin .or (.tmp 30) (.tmp 32)), .op (some 34) none (.fa 9 (.tmp 1)), .op (some 35) none (.ld1 (.tmp 34)), .op (some 36) none (.bin .or (.tmp 33) (.tmp 35)), .op (some 37) none (.fa 10 (.tmp 1)), .op (some 38) none (.ld1 (.tmp 37)), .op (some 39) none (.bin .or (.tmp 36) (.tmp 38)), .op (some 40) none (.bin .eql (.tmp 39) (.const (.int .u64 0))), .op (some 2) none (.mov (.tmp 40))] [2]) .ret)))⟩
theorem ok25 : compF Try.prog 25 hi25 = some ir25 := by kernel_rfl
def hi26 : List Hint := [.keep [1], .keep [1, 6], .keep [2], .keep [1, 3], .keep [3], .keep [2]]
def ir26 : IFun := ⟨1, [.tmp 2], (.seq (.run [.op (some 1) none (.box (.tmp 0)), .op (some 2) none (.mov (.const (.string ⟨#[]⟩)))] [1]) (.seq (.seq (.run [.op (some 4) none (.ldN 12 (.tmp 1)), .call (some 5) none (.fn 51) [(.tmp 4)], .op (some 6) none (.un .not (.tmp 5))] [1, 6]) (.cond (.tmp 6) (.seq (.run [.op (some 2) none (.mov (.const (.string ⟨#[]⟩)))] [2]) .ret) .skip)) (.seq (.run [.op (some 7) none (.build [(.slice none 0 0)] []), .op (some 8) none (.box (.tmp 7)), .op (some 3) none (.mov (.tmp 8))] [1, 3]) (.seq (.run [.op (some 9) none (.mov (.tmp 3)), .op (some 10) none (.mkI 85 (.tmp 9)), .call (some 11) none (.fn 52) [(.tmp 10), (.tmp 1)]] [3]) (.seq (.run [.op (some 12) none (.mov (.tmp 3)), .op (some 13) none (.nck (.tmp 12)), .op (some 14) none (.fa 0 (.tmp 13)), .op (some 15) none (.ld1 (.tmp 14)), .op (some 16) none (.cvB (.tmp 15)), .op (some 2) none (.mov (.tmp 16))] [2]) .ret)))))⟩
theorem ok26 : compF Try.prog 26 hi26 = some ir26 := by kernel_rfl
def hi27 : List Hint := [.keep [1], .keep [1, 6], .keep [2], .keep [1, 3], .keep [3], .keep [2]]
def ir27 : IFun := ⟨1, [.tmp 2], (.seq (.run [.op (some 1) none (.box (.tmp 0)), .op (some 2) none (.mov (.const (.string ⟨#[]⟩)))] [1]) (.seq (.seq (.run [.op (some 4) none (.ldN 16 (.tmp 1)), .call (some 5) none (.fn 53) [(.tmp 4)], .op (some 6) none (.un .not (.tmp 5))] [1, 6]) (.cond (.tmp 6) (.seq (.run [.op (some 2) none (.mov (.const (.string ⟨#[]⟩)))] [2]) .ret) .skip)) (.seq (.run [.op (some 7) none (.build [(.slice none 0 0)] []), .op (some 8) none (.box (.tmp 7)), .op (some 3) none (.mov (.tmp 8))] [1, 3]) (.seq (.run [.op (some 9) none (.mov (.tmp 3)), .op (some 10) none (.mkI 85 (.tmp 9)), .call (some 11) none (.fn 54) [(.tmp 10), (.tmp 1)]] [3]) (.seq (.run [.op (some 12) none (.mov (.tmp 3)), .op (some 13) none (.nck (.tmp 12)), .op (some 14) none (.fa 0 (.tmp 13)), .op (some 15) none (.ld1 (.tmp 14)), .op (some 16) none (.cvB (.tmp 15)), .op (some 2) none (.mov (.tmp 16))] [2]) .ret)))))⟩
theorem ok27 : compF Try.prog 27 hi27 = some ir27 := by kernel_rfl
def hi28 : List Hint := [.keep [1], .draw [.op 0, .op 1, .op 2, .op 3, .op 4, .op 5, .chk 1, .op 6, .op 7] [1, 3, 4], .keep [1, 3, 4, 12], .keep [1, 3, 4, 12, 13], .keep [2], .keep [1, 3, 4, 12, 29], .keep [1, 3, 4, 12, 29], .keep [1, 3, 4, 12, 29], .keep [2], .keep [1, 3, 4, 37], .keep [2], .keep [2]]
def ir28 : IFun := ⟨1, [.tmp 2], (.seq (.run [.op (some 1) none (.box (.tmp 0)), .op (some 2) none (.mov (.const (.bool false)))] [1]) (.seq (.draw 8 [.op (some 5) none (.fa 3 (.tmp 1)), .op (some 6) none (.ld1 (.tmp 5)), .op (some 7) none (.bin .eql (.tmp 6) (.const (.int .u8 0))), .op (some 8) none (.fa 4 (.tmp 1)), .op (some 9) none (.ldN 4 (.tmp 8)), .call (some 10) none (.fn 55) [(.tmp 9)], .chk 6 none (.ld1 (.tmp 5)), .op (some 3) none (.mov (.tmp 7)), .op (some 4) none (.mov (.tmp 10))] [1, 3, 4]) (.seq (.seq (.run [.op (some 11) none (.fa 0 (.tmp 1)), .op (some 12) none (.ld1 (.tmp 11))] [1, 3, 4, 12]) (.block 0 (.seq (.run [.op (some 14) none (.bin .eql (.tmp 12) (.const (.int .u8 1))), .op (some 13) none (.mov (.tmp 14))] [1, 3, 4, 12, 13]) (.cond (.tmp 13) (.seq (.run [.op (some 15) none (.mov (.tmp 3)), .op (some 16) none (.mov (.tmp 15)), .op (some 17) (some (16, true)) (.mov (.tmp 4)), .op (some 18) none (.pick (.tmp 16) (.tmp 17) (.const (.bool false))), .op (some 19) none (.mov (.tmp 18)), .op (some 20) (some (19, true)) (.fa 1 (.tmp 1)), .op (some 21) (some (19, true)) (.ld1 (.tmp 20)), .op (some 22) (some (19, true)) (.bin .eql (.tmp 21) (.const (.int .u64 0))), .op (some 23) none (.pick (.tmp 19) (.tmp 22) (.const (.bool false))), .op (some 24) none (.mov (.tmp 23)), .op (some 25) (some (24, true)) (.fa 2 (.tmp 1)), .op (some 26) (some (24, true)) (.ld1 (.tmp 25)), .op (some 27) (some (24, true)) (.bin .eql (.tmp 26) (.const (.int .u64 0))), .op (some 28) none (.pick (.tmp 24) (.tmp 27) (.const (.bool false))), .op (some 2) none (.mov (.tmp 28))] [2]) .ret) (.seq (.seq (.run [.op (some 30) none (.bin .eql (.tmp 12) (.const (.int .u8 2))), .op (some 29) none (.mov (.tmp 30))] [1, 3, 4, 12, 29]) (.cond (.tmp 29) .skip (.seq (.run [.op (some 31) none (.bin .eql (.tmp 12) (.const (.int .u8 4))), .op (some 29) none (.mov (.tmp 31))] [1, 3, 4, 12, 29]) (.cond (.tmp 29) .skip (.run [.op (some 32) none (.bin .eql (.tmp 12) (.const (.int .u8 5))), .op (some 29) none (.mov (.tmp 32))] [1, 3, 4, 12, 29]))))) (.cond (.tmp 29) (.seq (.run [.op (some 33) none (.mov (.tmp 3)), .op (some 34) none (.mov (.tmp 33)), .op (some 35) (some (34, true)) (.mov (.tmp 4)), .op (some 36) none (.pick (.tmp 34) (.tmp 35) (.const (.bool false))), .op (some 2) none (.mov (.tmp 36))] [2]) .ret) (.seq (.run [.op (some 38) none (.bin .eql (.tmp 12) (.const (.int .u8 3))), .op (some 37) none (.mov (.tmp 38))] [1, 3, 4, 37]) (.cond (.tmp 37) (.seq (.run [.op (some 39) none (.fa 3 (.tmp 1)), .op (some 40) none (.ld1 (.tmp 39)), .op (some 41) none (.bin .leq (.tmp 40) (.const (.int .u8 5))), .op (some 42) none (.mov (.tmp 41)), .op (some 43) (some (42, true)) (.mov (.tmp 4)), .op (some 44) none (.pick (.tmp 42) (.tmp 43) (.const (.bool false))), .op (some 2) none (.mov (.tmp 44))] [2]) .ret) .skip)))))))) (.seq (.run [.op (some 45) none (.fa 0 (.tmp 1)), .op (some 46) none (.ld1 (.tmp 45)), .op (some 47) none (.bin .eql (.tmp 46) (.const (.int .u8 6))), .op (some 48) none (.mov (.tmp 47)), .op (some 49) (some (48, true)) (.mov (.tmp 3)), .op (some 50) none (.pick (.tmp 48) (.tmp 49) (.const (.bool false))), .op (some 2) none (.mov (.tmp 50))] [2]) .ret))))⟩
theorem ok28 : compF Try.prog 28 hi28 = some ir28 := by kernel_rfl
def hi29 : List Hint := [.keep [0], .keep [0, 3], .keep [3, 8, 9, 10], .keep [3, 8, 9, 10], .keep [3, 8, 9, 10, 11], .keep [3, 5, 8, 9, 10], .keep [3, 5, 6, 8, 9, 10], .keep [3, 5, 6, 7, 8, 9, 10], .keep [3, 5, 6, 7, 8, 9, 10], .keep [3, 5, 6, 7, 8, 9, 10], .keep [3, 5, 6, 7, 8, 9, 10], .keep [3, 5, 6, 7, 8, 9, 10, 22], .keep [3, 5, 6, 7, 8, 9, 10], .keep [3, 5, 6, 7, 8, 9, 10], .keep [3, 5, 6, 7, 8, 9, 10], .keep [3, 8, 9, 10], .keep [3, 8, 9, 10], .keep [2]]
def ir29 : IFun := ⟨1, [.tmp 2], (.seq (.run [.op (some 2) none (.mov (.const (.string ⟨#[]⟩)))] [0]) (.seq (.run [.op (some 3) none (.mov (.const (.slice none 0 0)))] [0, 3]) (.seq (.seq (.run [.op (some 8) none (.mov (.tmp 0)), .op (some 9) none (.lenV (.tmp 8)), .op (some 10) none (.mov (.const (.int .i64 0)))] [3, 8, 9, 10]) (.block 0 (.loop [3, 8, 9, 10] (.seq (.run [.op (some 11) none (.bin .lss (.tmp 10) (.tmp 9))] [3, 8, 9, 10, 11]) (.seq (.cond (.tmp 11) .skip (.exit 0)) (.seq (.block 1 (.seq (.run [.op (some 12) none (.iaV 1 (.tmp 8) (.tmp 10)), .op (some 13) none (.ld1 (.tmp 12)), .op (some 5) none (.mov (.tmp 13))] [3, 5, 8, 9, 10]) (.seq (.run [.op (some 6) none (.new [(.int .u8 0), (.int .u8 0), (.int .u8 0), (.int .u8 0), (.int .u8 0), (.int .u8 0), (.int .u8 0), (.int .u8 0), (.int .u8 0), (.int .u8 0)])] [3, 5, 6, 8, 9, 10]) (.seq (.run [.op (some 7) none (.mov (.const (.int .i64 9)))] [3, 5, 6, 7, 8, 9, 10]) (.seq (.run [.op (some 14) none (.mov (.tmp 7)), .op (some 15) none (.mov (.tmp 5)), .op (some 16) none (.bin .and (.tmp 15) (.const (.int .u64 127))), .op (some 17) none (.cvI .u8 (.tmp 16)), .op (some 18) none (.iaA 10 1 (.tmp 6) (.tmp 14)), .op none none (.st 1 (.tmp 18) (.tmp 17))] [3, 5, 6, 7, 8, 9, 10]) (.seq (.seq (.run [.op (some 19) none (.mov (.tmp 5)), .op (some 20) none (.bin .shr (.tmp 19) (.const (.int .u64 7))), .op (some 5) none (.mov (.tmp 20))] [3, 5, 6, 7, 8, 9, 10]) (.block 2 (.loop [3, 5, 6, 7, 8, 9, 10] (.seq (.seq (.run [.op (some 21) none (.mov (.tmp 5)), .op (some 22) none (.bin .gtr (.tmp 21) (.const (.int .u64 0)))] [3, 5, 6, 7, 8, 9, 10, 22]) (.cond (.tmp 22) .skip (.exit 2))) (.seq (.block 3 (.seq (.run [.op (some 25) none (.mov (.tmp 7)), .op (some 26) none (.bin .sub (.tmp 25) (.const (.int .i64 1))), .op (some 7) none (.mov (.tmp 26))] [3, 5, 6, 7, 8, 9, 10]) (.run [.op (some 27) none (.mov (.tmp 7)), .op (some 28) none (.mov (.tmp 5)), .op (some 29) none (.bin .and (.tmp 28) (.const (.int .u64 127))), .op (some 30) none (.cvI .u8 (.tmp 29)), .op (some 31) none (.bin .or (.tmp 30) (.const (.int .u8 128))), .op (some 32) none (.iaA 10 1 (.tmp 6) (.tmp 27)), .op none none (.st 1 (.tmp 32) (.tmp 31))] [3, 5, 6, 7, 8, 9, 10]))) (.run [.op (some 23) none (.mov (.tmp 5)), .op (some 24) none (.bin .shr (.tmp 23) (.const (.int .u64 7))), .op (some 5) none (.mov (.tmp 24))] [3, 5, 6, 7, 8, 9, 10])))))) (.run [.op (some 33) none (.mov (.tmp 3)), .op (some 34) none (.mov (.tmp 7)), .op (some 35) none (.slA 10 1 (.tmp 6) (some (.tmp 34)) none none), .op (some 36) none (.app 1 1 (.tmp 33) (.tmp 35)), .op (some 3) none (.mov (.tmp 36))] [3, 8, 9, 10]))))))) (.run [.op (some 37) none (.bin .add (.tmp 10) (.const (.int .i64 1))), .op (some 10) none (.mov (.tmp 37))] [3, 8, 9, 10]))))))) (.seq (.run [.op (some 38) none (.mov (.tmp 3)), .op (some 39) none (.cvB (.tmp 38)), .op (some 2) none (.mov (.tmp 39))] [2]) .ret))))⟩
theorem ok29 : compF Try.prog 29 hi29 = some ir29 := by kernel_rfl
def hi30 : List Hint := [.keep [1], .keep [1, 3], .keep [1, 3], .keep [1, 3, 12, 13], .keep [1, 3, 12, 13], .keep [1, 3, 12, 13, 14], .keep [1, 3, 4, 12, 13], .keep [1, 3, 12, 13], .keep [1, 3, 12, 13], .keep [2]]
def ir30 : IFun := ⟨1, [.tmp 2], (.seq (.run [.op (some 1) none (.box (.tmp 0)), .op (some 2) none (.mov (.const (.string ⟨#[]⟩)))] [1]) (.seq (.run [.op (some 5) none (.build [(.slice none 0 0)] []), .op (some 6) none (.box (.tmp 5)), .op (some 3) none (.mov (.tmp 6))] [1, 3]) (.seq (.run [.op (some 7) none (.mov (.tmp 3)), .op (some 8) none (.mkI 85 (.tmp 7)), .call (some 9) none (.fn 56) [(.tmp 8), (.tmp 1)]] [1, 3]) (.seq (.seq (.run [.op (some 10) none (.fa 3 (.tmp 1)), .op (some 11) none (.ld1 (.tmp 10)), .op (some 12) none (.lenV (.tmp 11)), .op (some 13) none (.mov (.const (.int .i64 0)))] [1, 3, 12, 13]) (.block 0 (.loop [1, 3, 12, 13] (.seq (.run [.op (some 14) none (.bin .lss (.tmp 13) (.tmp 12))] [1, 3, 12, 13, 14]) (.seq (.cond (.tmp 14) .skip (.exit 0)) (.seq (.block 1 (.seq (.run [.op (some 15) none (.mov (.tmp 13)), .op (some 4) none (.mov (.tmp 15))] [1, 3, 4, 12, 13]) (.run [.op (some 16) none (.mov (.tmp 3)), .op (some 17) none (.mkI 85 (.tmp 16)), .op (some 18) none (.fa 3 (.tmp 1)), .op (some 19) none (.ld1 (.tmp 18)), .op (some 20) none (.mov (.tmp 4)), .op (some 21) none (.iaV 3 (.tmp 19) (.tmp 20)), .call (some 22) none (.fn 57) [(.tmp 17), (.tmp 21)]] [1, 3, 12, 13]))) (.run [.op (some 23) none (.bin .add (.tmp 13) (.const (.int .i64 1))), .op (some 13) none (.mov (.tmp 23))] [1, 3, 12, 13]))))))) (.seq (.run [.op (some 24) none (.mov (.tmp 3)), .op (some 25) none (.nck (.tmp 24)), .op (some 26) none (.fa 0 (.tmp 25)), .op (some 27) none (.ld1 (.tmp 26)), .op (some 28) none (.cvB (.tmp 27)), .op (some 2) none (.mov (.tmp 28))] [2]) .ret)))))⟩
theorem ok30 : compF Try.prog 30 hi30 = some ir30 := by kernel_rfl
def hi31 : List Hint := [.keep [0], .keep [0]]
def ir31 : IFun := ⟨0, [.cell 0 (some 8)], (.seq (.run [.op (some 0) none (.new [(.int .u8 0), (.int .u8 0), (.int .u8 0), (.int .u8 0), (.int .u8 0), (.int .u8 0), (.int .u8 0), (.int .u8 0)])] [0]) (.seq (.run [.op (some 1) none (.build [(.int .u8 0), (.int .u8 0), (.int .u8 0), (.int .u8 0), (.int .u8 0), (.int .u8 0), (.int .u8 0), (.int .u8 0)] [(0, 1, (.const (.int .u8 49))), (1, 1, (.const (.int .u8 50))), (2, 1, (.const (.int .u8 51))), (3, 1, (.const (.int .u8 52))), (4, 1, (.const (.int .u8 53))), (5, 1, (.const (.int .u8 54))), (6, 1, (.const (.int .u8 55))), (7, 1, (.const (.int .u8 56)))]), .op none none (.st 8 (.tmp 0) (.tmp 1))] [0]) .ret))⟩
theorem ok31 : compF Try.prog 31 hi31 = some ir31 := by kernel_rfl
end Go.Proofs.Yteikngjiaboeaaa.IrAll
namespace Go.Proofs.Yteikngjiaboeaaa.IrAll
open Go Go.Proofs.Yteikngjiaboeaaa.Am
def hi32 : List Hint := [.keep [0, 2], .keep [0, 2, 4], .keep [0, 2, 4, 5], .keep [0, 2, 4, 5], .keep [2, 4, 20], .keep [2, 3], .keep [2, 3]]
def ir32 : IFun := ⟨1, [.cell 2 (some 12), .tmp 3], (.seq (.run [.op (some 2) none (.new [(.int .u8 0), (.int .u64 0), (.int .u64 0), (.string ⟨#[]⟩), (.string ⟨#[]⟩), (.string ⟨#[]⟩), (.string ⟨#[]⟩), (.string ⟨#[]⟩), (.int .u8 0), (.int .u64 0), (.int .u64 0), (.slice none 0 0)]), .op (some 3) none (.mov (.const (.bool false)))] [0, 2]) (.seq (.run [.op (some 4) none (.new [(.int .u8 0), (.int .u64 0), (.int .u64 0), (.string ⟨#[]⟩), (.string ⟨#[]⟩), (.string ⟨#[]⟩), (.string ⟨#[]⟩), (.string ⟨#[]⟩), (.int .u8 0), (.int .u64 0), (.int .u64 0), (.slice none 0 0)])] [0, 2, 4]) (.seq (.run [.op (some 6) none (.mov (.tmp 0)), .op (some 7) none (.build [(.string ⟨#[]⟩), (.bool false)] [(0, 1, (.tmp 6))]), .op (some 8) none (.box (.tmp 7)), .op (some 5) none (.mov (.tmp 8))] [0, 2, 4, 5]) (.seq (.run [.op (some 9) none (.mov (.tmp 5)), .op (some 10) none (.mkI 98 (.tmp 9)), .call (some 11) none (.fn 52) [(.tmp 10), (.tmp 4)]] [0, 2, 4, 5]) (.seq (.seq (.run [.op (some 12) none (.mov (.tmp 5)), .call (some 13) none (.fn 58) [(.tmp 12)], .op (some 14) none (.un .not (.tmp 13)), .op (some 15) none (.mov (.tmp 14)), .op (some 16) (some (15, false)) (.ldN 12 (.tmp 4)), .call (some 17) (some (15, false)) (.fn 26) [(.tmp 16)], .op (some 18) (some (15, false)) (.mov (.tmp 0)), .op (some 19) (some (15, false)) (.bin .neq (.tmp 17) (.tmp 18)), .op (some 20) none (.pick (.tmp 15) (.const (.bool true)) (.tmp 19))] [2, 4, 20]) (.cond (.tmp 20) (.seq (.run [.op (some 21) none (.build [(.int .u8 0), (.int .u64 0), (.int .u64 0), (.string ⟨#[]⟩), (.string ⟨#[]⟩), (.string ⟨#[]⟩), (.string ⟨#[]⟩), (.string ⟨#[]⟩), (.int .u8 0), (.int .u64 0), (.int .u64 0), (.slice none 0 0)] []), .op none none (.st 12 (.tmp 2) (.tmp 21)), .op (some 3) none (.mov (.const (.bool false)))] [2, 3]) .ret) .skip)) (.seq (.run [.op (some 22) none (.ldN 12 (.tmp 4)), .op none none (.st 12 (.tmp 2) (.tmp 22)), .op (some 3) none (.mov (.const (.bool true)))] [2, 3]) .ret))))))⟩
theorem ok32 : compF Try.prog 32 hi32 = some ir32 := by kernel_rfl
def hi33 : List Hint := [.keep [0, 2], .keep [0, 2, 4], .keep [0, 2, 4, 5], .keep [0, 2, 4, 5], .keep [2, 4, 20], .keep [2, 3], .keep [2, 3]]
def ir33 : IFun := ⟨1, [.cell 2 (some 16), .tmp 3], (.seq (.run [.op (some 2) none (.new [(.int .u8 0), (.int .u8 0), (.int .u8 0), (.int .u8 0), (.int .u8 0), (.int .u8 0), (.int .u8 0), (.int .u8 0), (.int .u8 0), (.int .u8 0), (.int .u8 0), (.int .i64 0), (.int .i64 0), (.int .i64 0), (.int .i64 0), (.int .u8 0)]), .op (some 3) none (.mov (.const (.bool false)))] [0, 2]) (.seq (.run [.op (some 4) none (.new [(.int .u8 0), (.int .u8 0), (.int .u8 0), (.int .u8 0), (.int .u8 0), (.int .u8 0), (.int .u8 0), (.int .u8 0), (.int .u8 0), (.int .u8 0), (.int .u8 0), (.int .i64 0), (.int .i64 0), (.int .i64 0), (.int .i64 0), (.int .u8 0)])] [0, 2, 4]) (.seq (.run [.op (some 6) none (.mov (.tmp 0)), .op (some 7) none (.build [(.string ⟨#[]⟩), (.bool false)] [(0, 1, (.tmp 6))]), .op (some 8) none (.box (.tmp 7)), .op (some 5) none (.mov (.tmp 8))] [0, 2, 4, 5]) (.seq (.run [.op (some 9) none (.mov (.tmp 5)), .op (some 10) none (.mkI 98 (.tmp 9)), .call (some 11) none (.fn 54) [(.tmp 10), (.tmp 4)]] [0, 2, 4, 5]) (.seq (.seq (.run [.op (some 12) none (.mov (.tmp 5)), .call (some 13) none (.fn 58) [(.tmp 12)], .op (some 14) none (.un .not (.tmp 13)), .op (some 15) none (.mov (.tmp 14)), .op (some 16) (some (15, false)) (.ldN 16 (.tmp 4)), .call (some 17) (some (15, false)) (.fn 27) [(.tmp 16)], .op (some 18) (some (15, false)) (.mov (.tmp 0)), .op (some 19) (some (15, false)) (.bin .neq (.tmp 17) (.tmp 18)), .op (some 20) none (.pick (.tmp 15) (.const (.bool true)) (.tmp 19))] [2, 4, 20]) (.cond (.tmp 20) (.seq (.run [.op (some 21) none (.build [(.int .u8 0), (.int .u8 0), (.int .u8 0), (.int .u8 0), (.int .u8 0), (.int .u8 0), (.int .u8 0), (.int .u8 0), (.int .u8 0), (.int .u8 0), (.int .u8 0), (.int .i64 0), (.int .i64 0), (.int .i64 0), (.int .i64 0), (.int .u8 0)] []), .op none none (.st 16 (.tmp 2) (.tmp 21)), .op (some 3) none (.mov (.const (.bool false)))] [2, 3]) .ret) .skip)) (.seq (.run [.op (some 22) none (.ldN 16 (.tmp 4)), .op none none (.st 16 (.tmp 2) (.tmp 22)), .op (some 3) none (.mov (.const (.bool true)))] [2, 3]) .ret))))))⟩
theorem ok33 : compF Try.prog 33 hi33 = some ir33 := by kernel_rfl
def hi34 : List Hint := [.keep [0, 2, 3], .keep [0, 2, 3], .keep [0, 2, 3, 13], .keep [0, 2, 3, 5], .keep [0, 2, 3, 5, 27], .keep [0, 2, 3, 5], .keep [0, 2, 3, 5], .keep [0, 2, 3, 38], .keep [2, 3, 4], .keep [2, 3, 4]]
def ir34 : IFun := ⟨1, [.tmp 2, .tmp 3, .tmp 4], (.seq (.run [.op (some 2) none (.mov (.const (.int .u64 0))), .op (some 3) none (.mov (.const (.int .i64 0))), .op (some 4) none (.mov (.const (.bool false)))] [0, 2, 3]) (.seq (.block 0 (.loop [0, 2, 3] (.seq (.seq (.run [.op (some 6) none (.mov (.tmp 3)), .op (some 7) none (.mov (.tmp 0)), .op (some 8) none (.lenS (.tmp 7)), .op (some 9) none (.bin .lss (.tmp 6) (.tmp 8)), .op (some 10) none (.mov (.tmp 9)), .op (some 11) (some (10, true)) (.mov (.tmp 3)), .op (some 12) (some (10, true)) (.bin .lss (.tmp 11) (.const (.int .i64 10))), .op (some 13) none (.pick (.tmp 10) (.tmp 12) (.const (.bool false)))] [0, 2, 3, 13]) (.cond (.tmp 13) .skip (.exit 0))) (.block 1 (.seq (.run [.op (some 14) none (.mov (.tmp 0)), .op (some 15) none (.mov (.tmp 3)), .op (some 16) none (.ixS (.tmp 14) (.tmp 15)), .op (some 5) none (.mov (.tmp 16))] [0, 2, 3, 5]) (.seq (.seq (.run [.op (some 17) none (.mov (.tmp 3)), .op (some 18) none (.bin .eql (.tmp 17) (.const (.int .i64 0))), .op (some 19) none (.mov (.tmp 18)), .op (some 20) (some (19, true)) (.mov (.tmp 5)), .op (some 21) (some (19, true)) (.bin .eql (.tmp 20) (.const (.int .u8 128))), .op (some 22) none (.pick (.tmp 19) (.tmp 21) (.const (.bool false))), .op (some 23) none (.mov (.tmp 22)), .op (some 24) (some (23, false)) (.mov (.tmp 2)), .op (some 25) (some (23, false)) (.bin .shr (.tmp 24) (.const (.int .u64 57))), .op (some 26) (some (23, false)) (.bin .gtr (.tmp 25) (.const (.int .u64 0))), .op (some 27) none (.pick (.tmp 23) (.const (.bool true)) (.tmp 26))] [0, 2, 3, 5, 27]) (.cond (.tmp 27) (.exit 0) .skip)) (.seq (.run [.op (some 28) none (.mov (.tmp 2)), .op (some 29) none (.bin .shl (.tmp 28) (.const (.int .u64 7))), .op (some 30) none (.mov (.tmp 5)), .op (some 31) none (.bin .and (.tmp 30) (.const (.int .u8 127))), .op (some 32) none (.cvI .u64 (.tmp 31)), .op (some 33) none (.bin .or (.tmp 29) (.tmp 32)), .op (some 2) none (.mov (.tmp 33))] [0, 2, 3, 5]) (.seq (.run [.op (some 34) none (.mov (.tmp 3)), .op (some 35) none (.bin .add (.tmp 34) (.const (.int .i64 1))), .op (some 3) none (.mov (.tmp 35))] [0, 2, 3, 5]) (.seq (.run [.op (some 36) none (.mov (.tmp 5)), .op (some 37) none (.bin .and (.tmp 36) (.const (.int .u8 128))), .op (some 38) none (.bin .eql (.tmp 37) (.const (.int .u8 0)))] [0, 2, 3, 38]) (.cond (.tmp 38) (.seq (.run [.op (some 39) none (.mov (.tmp 2)), .op (some 40) none (.mov (.tmp 3)), .op (some 2) none (.mov (.tmp 39)), .op (some 3) none (.mov (.tmp 40)), .op (some 4) none (.mov (.const (.bool true)))] [2, 3, 4]) .ret) .skip)))))))))) (.seq (.run [.op (some 2) none (.mov (.const (.int .u64 0))), .op (some 3) none (.mov (.const (.int .i64 0))), .op (some 4) none (.mov (.const (.bool false)))] [2, 3, 4]) .ret)))⟩
theorem ok34 : compF Try.prog 34 hi34 = some ir34 := by kernel_rfl
def hi35 : List Hint := [.keep [0, 2], .keep [0, 2, 4], .keep [2, 4, 5], .keep [2, 4, 5, 6], .keep [2, 4, 5, 6], .keep [2, 4, 5, 6, 22], .keep [2, 4, 5, 6, 7], .keep [2, 4, 5, 6, 7], .keep [2, 4, 5, 6], .keep [2, 4, 5, 6], .keep [2, 4, 36], .keep [2, 3], .keep [2, 3]]
def ir35 : IFun := ⟨1, [.cell 2 (some 4), .tmp 3], (.seq (.run [.op (some 2) none (.new [(.int .u8 0), (.int .u64 0), (.string ⟨#[]⟩), (.slice none 0 0)]), .op (some 3) none (.mov (.const (.bool false)))] [0, 2]) (.seq (.run [.op (some 4) none (.new [(.int .u8 0), (.int .u64 0), (.string ⟨#[]⟩), (.slice none 0 0)])] [0, 2, 4]) (.seq (.run [.op (some 8) none (.mov (.tmp 0)), .op (some 9) none (.build [(.string ⟨#[]⟩), (.bool false)] [(0, 1, (.tmp 8))]), .op (some 10) none (.box (.tmp 9)), .op (some 5) none (.mov (.tmp 10))] [2, 4, 5]) (.seq (.seq (.run [.op (some 11) none (.mov (.tmp 5)), .op (some 12) none (.mkI 98 (.tmp 11)), .call (some 13) none (.fn 56) [(.tmp 12), (.tmp 4)], .op (some 6) none (.mov (.tmp 13))] [2, 4, 5, 6]) (.block 0 (.loop [2, 4, 5, 6] (.seq (.seq (.run [.op (some 14) none (.mov (.tmp 6)), .op (some 15) none (.bin .gtr (.tmp 14) (.const (.int .u64 0))), .op (some 16) none (.mov (.tmp 15)), .op (some 17) (some (16, true)) (.mov (.tmp 5)), .op (some 18) (some (16, true)) (.nck (.tmp 17)), .op (some 19) (some (16, true)) (.fa 1 (.tmp 18)), .op (some 20) (some (16, true)) (.ld1 (.tmp 19)), .op (some 21) (some (16, true)) (.un .not (.tmp 20)), .op (some 22) none (.pick (.tmp 16) (.tmp 21) (.const (.bool false)))] [2, 4, 5, 6, 22]) (.cond (.tmp 22) .skip (.exit 0))) (.seq (.block 1 (.seq (.run [.op (some 7) none (.new [(.string ⟨#[]⟩), (.string ⟨#[]⟩), (.int .u64 0)])] [2, 4, 5, 6, 7]) (.seq (.run [.op (some 25) none (.mov (.tmp 5)), .op (some 26) none (.mkI 98 (.tmp 25)), .call (some 27) none (.fn 57) [(.tmp 26), (.tmp 7)]] [2, 4, 5, 6, 7]) (.run [.op (some 28) none (.fa 3 (.tmp 4)), .op (some 29) none (.ld1 (.tmp 28)), .op (some 30) none (.ldN 3 (.tmp 7)), .op (some 31) none (.bsl 3 1 [(.string ⟨#[]⟩), (.string ⟨#[]⟩), (.int .u64 0)] [(0, 3, (.tmp 30))]), .op (some 32) none (.app 3 40 (.tmp 29) (.tmp 31)), .op (some 33) none (.fa 3 (.tmp 4)), .op none none (.st 1 (.tmp 33) (.tmp 32))] [2, 4, 5, 6])))) (.run [.op (some 23) none (.mov (.tmp 6)), .op (some 24) none (.bin .sub (.tmp 23) (.const (.int .u64 1))), .op (some 6) none (.mov (.tmp 24))] [2, 4, 5, 6])))))) (.seq (.seq (.run [.op (some 34) none (.mov (.tmp 5)), .call (some 35) none (.fn 58) [(.tmp 34)], .op (some 36) none (.un .not (.tmp 35))] [2, 4, 36]) (.cond (.tmp 36) (.seq (.run [.op (some 37) none (.build [(.int .u8 0), (.int .u64 0), (.string ⟨#[]⟩), (.slice none 0 0)] []), .op none none (.st 4 (.tmp 2) (.tmp 37)), .op (some 3) none (.mov (.const (.bool false)))] [2, 3]) .ret) .skip)) (.seq (.run [.op (some 38) none (.ldN 4 (.tmp 4)), .op none none (.st 4 (.tmp 2) (.tmp 38)), .op (some 3) none (.mov (.const (.bool true)))] [2, 3]) .ret))))))⟩
theorem ok35 : compF Try.prog 35 hi35 = some ir35 := by kernel_rfl
def hi36 : List Hint := [.keep [1], .keep [1, 37], .keep [2], .keep [1, 3], .keep [1, 3], .keep [1, 3, 42], .keep [1, 3, 62], .keep [2], .keep [1, 3], .keep [2]]
def ir36 : IFun := ⟨1, [.tmp 2], (.seq (.run [.op (some 1) none (.box (.tmp 0)), .op (some 2) none (.mov (.const (.bool false)))] [1]) (.seq (.seq (.run [.op (some 4) none (.fa 3 (.tmp 1)), .op (some 5) none (.ld1 (.tmp 4)), .op (some 6) none (.lenS (.tmp 5)), .op (some 7) none (.bin .gtr (.tmp 6) (.const (.int .i64 3000))), .op (some 8) none (.mov (.tmp 7)), .op (some 9) (some (8, false)) (.fa 4 (.tmp 1)), .op (some 10) (some (8, false)) (.ld1 (.tmp 9)), .op (some 11) (some (8, false)) (.lenS (.tmp 10)), .op (some 12) (some (8, false)) (.bin .gtr (.tmp 11) (.const (.int .i64 3000))), .op (some 13) none (.pick (.tmp 8) (.const (.bool true)) (.tmp 12)), .op (some 14) none (.mov (.tmp 13)), .op (some 15) (some (14, false)) (.fa 5 (.tmp 1)), .op (some 16) (some (14, false)) (.ld1 (.tmp 15)), .op (some 17) (some (14, false)) (.lenS (.tmp 16)), .op (some 18) (some (14, false)) (.bin .gtr (.tmp 17) (.const (.int .i64 3000))), .op (some 19) none (.pick (.tmp 14) (.const (.bool true)) (.tmp 18)), .op (some 20) none (.mov (.tmp 19)), .op (some 21) (some (20, false)) (.fa 6 (.tmp 1)), .op (some 22) (some (20, false)) (.ld1 (.tmp 21)), .op (some 23) (some (20, false)) (.lenS (.tmp 22)), .op (some 24) (some (20, false)) (.bin .gtr (.tmp 23) (.const (.int .i64 3000))), .op (some 25) none (.pick (.tmp 20) (.const (.bool true)) (.tmp 24)), .op (some 26) none (.mov (.tmp 25)), .op (some 27) (some (26, false)) (.fa 7 (.tmp 1)), .op (some 28) (some (26, false)) (.ld1 (.tmp 27)), .op (some 29) (some (26, false)) (.lenS (.tmp 28)), .op (some 30) (some (26, false)) (.bin .gtr (.tmp 29) (.const (.int .i64 3000))), .op (some 31) none (.pick (.tmp 26) (.const (.bool true)) (.tmp 30)), .op (some 32) none (.mov (.tmp 31)), .op (some 33) (some (32, false)) (.fa 11 (.tmp 1)), .op (some 34) (some (32, false)) (.ld1 (.tmp 33)), .op (some 35) (some (32, false)) (.lenV (.tmp 34)), .op (some 36) (some (32, false)) (.bin .gtr (.tmp 35) (.const (.int .i64 40))), .op (some 37) none (.pick (.tmp 32) (.const (.bool true)) (.tmp 36))] [1, 37]) (.cond (.tmp 37) (.seq (.run [.op (some 2) none (.mov (.const (.bool true)))] [2]) .ret) .skip)) (.seq (.seq (.run [.op (some 3) none (.mov (.const (.int .i64 0)))] [1, 3]) (.block 0 (.loop [1, 3] (.seq (.seq (.run [.op (some 38) none (.mov (.tmp 3)), .op (some 39) none (.fa 11 (.tmp 1)), .op (some 40) none (.ld1 (.tmp 39)), .op (some 41) none (.lenV (.tmp 40)), .op (some 42) none (.bin .lss (.tmp 38) (.tmp 41))] [1, 3, 42]) (.cond (.tmp 42) .skip (.exit 0))) (.seq (.block 1 (.seq (.run [.op (some 45) none (.fa 11 (.tmp 1)), .op (some 46) none (.ld1 (.tmp 45)), .op (some 47) none (.mov (.tmp 3)), .op (some 48) none (.iaV 3 (.tmp 46) (.tmp 47)), .op (some 49) none (.fa 1 (.tmp 48)), .op (some 50) none (.ld1 (.tmp 49)), .op (some 51) none (.lenS (.tmp 50)), .op (some 52) none (.bin .gtr (.tmp 51) (.const (.int .i64 3000))), .op (some 53) none (.mov (.tmp 52)), .op (some 54) (some (53, false)) (.fa 11 (.tmp 1)), .op (some 55) (some (53, false)) (.ld1 (.tmp 54)), .op (some 56) (some (53, false)) (.mov (.tmp 3)), .op (some 57) (some (53, false)) (.iaV 3 (.tmp 55) (.tmp 56)), .op (some 58) (some (53, false)) (.fa 2 (.tmp 57)), .op (some 59) (some (53, false)) (.ld1 (.tmp 58)), .op (some 60) (some (53, false)) (.lenS (.tmp 59)), .op (some 61) (some (53, false)) (.bin .gtr (.tmp 60) (.const (.int .i64 3000))), .op (some 62) none (.pick (.tmp 53) (.const (.bool true)) (.tmp 61))] [1, 3, 62]) (.cond (.tmp 62) (.seq (.run [.op (some 2) none (.mov (.const (.bool true)))] [2]) .ret) .skip))) (.run [.op (some 43) none (.mov (.tmp 3)), .op (some 44) none (.bin .add (.tmp 43) (.const (.int .i64 1))), .op (some 3) none (.mov (.tmp 44))] [1, 3])))))) (.seq (.run [.op (some 2) none (.mov (.const (.bool false)))] [2]) .ret))))⟩
theorem ok36 : compF Try.prog 36 hi36 = some ir36 := by kernel_rfl
def hi39 : List Hint := [.keep [2, 3], .keep [2, 3, 89], .keep [4], .keep [2, 3, 5], .keep [2, 3, 5], .keep [2, 3, 5, 94], .draw [.op 0, .op 1, .op 2, .op 3, .op 4, .op 5, .op 6, .op 7, .op 8, .op 9, .op 10] [2, 3, 5, 107], .keep [4], .keep [2, 3, 5], .keep [4]]
def ir39 : IFun := ⟨2, [.tmp 4], (.seq (.run [.op (some 2) none (.box (.tmp 0)), .op (some 3) none (.box (.tmp 1)), .op (some 4) none (.mov (.const (.bool false)))] [2, 3]) (.seq (.seq (.run [.op (some 6) none (.fa 0 (.tmp 2)), .op (some 7) none (.ld1 (.tmp 6)), .op (some 8) none (.fa 0 (.tmp 3)), .op (some 9) none (.ld1 (.tmp 8)), .op (some 10) none (.bin .neq (.tmp 7) (.tmp 9)), .op (some 11) none (.mov (.tmp 10)), .op (some 12) (some (11, false)) (.fa 1 (.tmp 2)), .op (some 13) (some (11, false)) (.ld1 (.tmp 12)), .op (some 14) (some (11, false)) (.fa 1 (.tmp 3)), .op (some 15) (some (11, false)) (.ld1 (.tmp 14)), .op (some 16) (some (11, false)) (.bin .neq (.tmp 13) (.tmp 15)), .op (some 17) none (.pick (.tmp 11) (.const (.bool true)) (.tmp 16)), .op (some 18) none (.mov (.tmp 17)), .op (some 19) (some (18, false)) (.fa 2 (.tmp 2)), .op (some 20) (some (18, false)) (.ld1 (.tmp 19)), .op (some 21) (some (18, false)) (.fa 2 (.tmp 3)), .op (some 22) (some (18, false)) (.ld1 (.tmp 21)), .op (some 23) (some (18, false)) (.bin .neq (.tmp 20) (.tmp 22)), .op (some 24) none (.pick (.tmp 18) (.const (.bool true)) (.tmp 23)), .op (some 25) none (.mov (.tmp 24)), .op (some 26) (some (25, false)) (.fa 3 (.tmp 2)), .op (some 27) (some (25, false)) (.ld1 (.tmp 26)), .op (some 28) (some (25, false)) (.fa 3 (.tmp 3)), .op (some 29) (some (25, false)) (.ld1 (.tmp 28)), .op (some 30) (some (25, false)) (.bin .neq (.tmp 27) (.tmp 29)), .op (some 31) none (.pick (.tmp 25) (.const (.bool true)) (.tmp 30)), .op (some 32) none (.mov (.tmp 31)), .op (some 33) (some (32, false)) (.fa 4 (.tmp 2)), .op (some 34) (some (32, false)) (.ld1 (.tmp 33)), .op (some 35) (some (32, false)) (.fa 4 (.tmp 3)), .op (some 36) (some (32, false)) (.ld1 (.tmp 35)), .op (some 37) (some (32, false)) (.bin .neq (.tmp 34) (.tmp 36)), .op (some 38) none (.pick (.tmp 32) (.const (.bool true)) (.tmp 37)), .op (some 39) none (.mov (.tmp 38)), .op (some 40) (some (39, false)) (.fa 5 (.tmp 2)), .op (some 41) (some (39, false)) (.ld1 (.tmp 40)), .op (some 42) (some (39, false)) (.fa 5 (.tmp 3)), .op (some 43) (some (39, false)) (.ld1 (.tmp 42)), .op (some 44) (some (39, false)) (.bin .neq (.tmp 41) (.tmp 43)), .op (some 45) none (.pick (.tmp 39) (.const (.bool true)) (.tmp 44)), .op (some 46) none (.mov (.tmp 45)), .op (some 47) (some (46, false)) (.fa 6 (.tmp 2)), .op (some 48) (some (46, false)) (.ld1 (.tmp 47)), .op (some 49) (some (46, false)) (.fa 6 (.tmp 3)), .op (some 50) (some (46, false)) (.ld1 (.tmp 49)), .op (some 51) (some (46, false)) (.bin .neq (.tmp 48) (.tmp 50)), .op (some 52) none (.pick (.tmp 46) (.const (.bool true)) (.tmp 51)), .op (some 53) none (.mov (.tmp 52)), .op (some 54) (some (53, false)) (.fa 7 (.tmp 2)), .op (some 55) (some (53, false)) (.ld1 (.tmp 54)), .op (some 56) (some (53, false)) (.fa 7 (.tmp 3)), .op (some 57) (some (53, false)) (.ld1 (.tmp 56)), .op (some 58) (some (53, false)) (.bin .neq (.tmp 55) (.tmp 57)), .op (some 59) none (.pick (.tmp 53) (.const (.bool true)) (.tmp 58)), .op (some 60) none (.mov (.tmp 59)), .op (some 61) (some (60, false)) (.fa 8 (.tmp 2)), .op (some 62) (some (60, false)) (.ld1 (.tmp 61)), .op (some 63) (some (60, false)) (.fa 8 (.tmp 3)), .op (some 64) (some (60, false)) (.ld1 (.tmp 63)), .op (some 65) (some (60, false)) (.bin .neq (.tmp 62) (.tmp 64)), .op (some 66) none (.pick (.tmp 60) (.const (.bool true)) (.tmp 65)), .op (some 67) none (.mov (.tmp 66)), .op (some 68) (some (67, false)) (.fa 9 (.tmp 2)), .op (some 69) (some (67, false)) (.ld1 (.tmp 68)), .op (some 70) (some (67, false)) (.fa 9 (.tmp 3)), .op (some 71) (some (67, false)) (.ld1 (.tmp 70)), .op (some 72) (some (67, false)) (.bin .neq (.tmp 69) (.tmp 71)), .op (some 73) none (.pick (.tmp 67) (.const (.bool true)) (.tmp 72)), .op (some 74) none (.mov (.tmp 73)), .op (some 75) (some (74, false)) (.fa 10 (.tmp 2)), .op (some 76) (some (74, false)) (.ld1 (.tmp 75)), .op (some 77) (some (74, false)) (.fa 10 (.tmp 3)), .op (some 78) (some (74, false)) (.ld1 (.tmp 77)), .op (some 79) (some (74, false)) (.bin .neq (.tmp 76) (.tmp 78)), .op (some 80) none (.pick (.tmp 74) (.const (.bool true)) (.tmp 79)), .op (some 81) none (.mov (.tmp 80)), .op (some 82) (some (81, false)) (.fa 11 (.tmp 2)), .op (some 83) (some (81, false)) (.ld1 (.tmp 82)), .op (some 84) (some (81, false)) (.lenV (.tmp 83)), .op (some 85) (some (81, false)) (.fa 11 (.tmp 3)), .op (some 86) (some (81, false)) (.ld1 (.tmp 85)), .op (some 87) (some (81, false)) (.lenV (.tmp 86)), .op (some 88) (some (81, false)) (.bin .neq (.tmp 84) (.tmp 87)), .op (some 89) none (.pick (.tmp 81) (.const (.bool true)) (.tmp 88))] [2, 3, 89]) (.cond (.tmp 89) (.seq (.run [.op (some 4) none (.mov (.const (.bool false)))] [4]) .ret) .skip)) (.seq (.seq (.run [.op (some 5) none (.mov (.const (.int .i64 0)))] [2, 3, 5]) (.block 0 (.loop [2, 3, 5] (.seq (.seq (.run [.op (some 90) none (.mov (.tmp 5)), .op (some 91) none (.fa 11 (.tmp 2)), .op (some 92) none (.ld1 (.tmp 91)), .op (some 93) none (.lenV (.tmp 92)), .op (some 94) none (.bin .lss (.tmp 90) (.tmp 93))] [2, 3, 5, 94]) (.cond (.tmp 94) .skip (.exit 0))) (.seq (.block 1 (.seq (.draw 11 [.op (some 97) none (.fa 11 (.tmp 2)), .op (some 98) none (.ld1 (.tmp 97)), .op (some 99) none (.mov (.tmp 5)), .op (some 100) none (.iaV 3 (.tmp 98) (.tmp 99)), .op (some 101) none (.ldN 3 (.tmp 100)), .op (some 102) none (.fa 11 (.tmp 3)), .op (some 103) none (.ld1 (.tmp 102)), .op (some 104) none (.mov (.tmp 5)), .op (some 105) none (.iaV 3 (.tmp 103) (.tmp 104)), .op (some 106) none (.ldN 3 (.tmp 105)), .op (some 107) none (.eqq true (.agg [(0, 1), (1, 2), (2, 2)]) (.tmp 101) (.tmp 106))] [2, 3, 5, 107]) (.cond (.tmp 107) (.seq (.run [.op (some 4) none (.mov (.const (.bool false)))] [4]) .ret) .skip))) (.run [.op (some 95) none (.mov (.tmp 5)), .op (some 96) none (.bin .add (.tmp 95) (.const (.int .i64 1))), .op (some 5) none (.mov (.tmp 96))] [2, 3, 5])))))) (.seq (.run [.op (some 4) none (.mov (.const (.bool true)))] [4]) .ret))))⟩
theorem ok39 : compF Try.prog 39 hi39 = some ir39 := by kernel_rfl
end Go.Proofs.Yteikngjiaboeaaa.IrAll
namespace Go.Proofs.Yteikngjiaboeaaa.IrAll
open Go Go.Proofs.Yteikngjiaboeaaa.Am
def hi50 : List Hint := [.keep [0, 1], .keep [0, 1], .keep [0, 1, 8], .keep [2], .keep [2]]
def ir50 : IFun := ⟨2, [.tmp 2], (.seq (.run [.op (some 2) none (.mov (.const (.string ⟨#[]⟩)))] [0, 1]) (.seq (.run [.op (some 3) none (.ld1 (.tmp 0)), .op (some 4) none (.bin .add (.tmp 3) (.const (.int .i64 1))), .op none none (.st 1 (.tmp 0) (.tmp 4))] [0, 1]) (.seq (.seq (.run [.op (some 5) none (.ld1 (.tmp 0)), .op (some 6) none (.ld1 (.tmp 1)), .op (some 7) none (.lenV (.tmp 6)), .op (some 8) none (.bin .gtr (.tmp 5) (.tmp 7))] [0, 1, 8]) (.cond (.tmp 8) (.seq (.run [.op (some 2) none (.mov (.const (.string ⟨#[]⟩)))] [2]) .ret) .skip)) (.seq (.run [.op (some 9) none (.ld1 (.tmp 1)), .op (some 10) none (.ld1 (.tmp 0)), .op (some 11) none (.bin .sub (.tmp 10) (.const (.int .i64 1))), .op (some 12) none (.iaV 1 (.tmp 9) (.tmp 11)), .op (some 13) none (.ld1 (.tmp 12)), .op (some 2) none (.mov (.tmp 13))] [2]) .ret))))⟩
theorem ok50 : compF Try.prog 50 hi50 = some ir50 := by kernel_rfl
def hi51 : List Hint := [.keep [1], .keep [1, 3], .keep [1, 4], .keep [1, 55], .keep [2], .keep [1, 5], .keep [2]]
def ir51 : IFun := ⟨1, [.tmp 2], (.seq (.run [.op (some 1) none (.box (.tmp 0)), .op (some 2) none (.mov (.const (.bool false)))] [1]) (.seq (.run [.op (some 6) none (.ldN 12 (.tmp 1)), .call (some 7) none (.fn 71) [(.tmp 6)], .op (some 3) none (.new [(.int .u8 0), (.int .u64 0), (.int .u64 0), (.string ⟨#[]⟩), (.string ⟨#[]⟩), (.string ⟨#[]⟩), (.string ⟨#[]⟩), (.string ⟨#[]⟩), (.int .u8 0), (.int .u64 0), (.int .u64 0), (.slice none 0 0)]), .op none none (.st 12 (.tmp 3) (.tmp 7))] [1, 3]) (.seq (.run [.op (some 8) none (.fa 3 (.tmp 3)), .op (some 9) none (.ld1 (.tmp 8)), .op (some 10) none (.fa 4 (.tmp 3)), .op (some 11) none (.ld1 (.tmp 10)), .op (some 12) none (.bin .add (.tmp 9) (.tmp 11)), .op (some 13) none (.fa 5 (.tmp 3)), .op (some 14) none (.ld1 (.tmp 13)), .op (some 15) none (.bin .add (.tmp 12) (.tmp 14)), .op (some 16) none (.fa 6 (.tmp 3)), .op (some 17) none (.ld1 (.tmp 16)), .op (some 18) none (.bin .add (.tmp 15) (.tmp 17)), .op (some 19) none (.fa 7 (.tmp 3)), .op (some 20) none (.ld1 (.tmp 19)), .op (some 21) none (.bin .add (.tmp 18) (.tmp 20)), .op (some 22) none (.bin .eql (.tmp 21) (.const (.string ⟨#[]⟩))), .op (some 23) none (.mov (.tmp 22)), .op (some 24) (some (23, true)) (.fa 8 (.tmp 3)), .op (some 25) (some (23, true)) (.ld1 (.tmp 24)), .op (some 26) (some (23, true)) (.bin .eql (.tmp 25) (.const (.int .u8 0))), .op (some 27) none (.pick (.tmp 23) (.tmp 26) (.const (.bool false))), .op (some 28) none (.mov (.tmp 27)), .op (some 29) (some (28, true)) (.fa 9 (.tmp 3)), .op (some 30) (some (28, true)) (.ld1 (.tmp 29)), .op (some 31) (some (28, true)) (.bin .eql (.tmp 30) (.const (.int .u64 0))), .op (some 32) none (.pick (.tmp 28) (.tmp 31) (.const (.bool false))), .op (some 33) none (.mov (.tmp 32)), .op (some 34) (some (33, true)) (.fa 10 (.tmp 3)), .op (some 35) (some (33, true)) (.ld1 (.tmp 34)), .op (some 36) (some (33, true)) (.bin .eql (.tmp 35) (.const (.int .u64 0))), .op (some 37) none (.pick (.tmp 33) (.tmp 36) (.const (.bool false))), .op (some 38) none (.mov (.tmp 37)), .op (some 39) (some (38, true)) (.fa 11 (.tmp 3)), .op (some 40) (some (38, true)) (.ld1 (.tmp 39)), .op (some 41) (some (38, true)) (.lenV (.tmp 40)), .op (some 42) (some (38, true)) (.bin .eql (.tmp 41) (.const (.int .i64 0))), .op (some 43) none (.pick (.tmp 38) (.tmp 42) (.const (.bool false))), .op (some 4) none (.mov (.tmp 43))] [1, 4]) (.seq (.seq (.run [.op (some 44) none (.fa 0 (.tmp 1)), .op (some 45) none (.ld1 (.tmp 44)), .op (some 46) none (.bin .lss (.tmp 45) (.const (.int .u8 1))), .op (some 47) none (.mov (.tmp 46)), .op (some 48) (some (47, false)) (.fa 0 (.tmp 1)), .op (some 49) (some (47, false)) (.ld1 (.tmp 48)), .op (some 50) (some (47, false)) (.bin .gtr (.tmp 49) (.const (.int .u8 11))), .op (some 51) none (.pick (.tmp 47) (.const (.bool true)) (.tmp 50)), .op (some 52) none (.mov (.tmp 51)), .op (some 53) (some (52, false)) (.mov (.tmp 4)), .op (some 54) (some (52, false)) (.un .not (.tmp 53)), .op (some 55) none (.pick (.tmp 52) (.const (.bool true)) (.tmp 54))] [1, 55]) (.cond (.tmp 55) (.seq (.run [.op (some 2) none (.mov (.const (.bool false)))] [2]) .ret) .skip)) (.seq (.run [.op (some 5) none (.mov (.func 72))] [1, 5]) (.seq (.run [.op (some 56) none (.fa 0 (.tmp 1)), .op (some 57) none (.ld1 (.tmp 56)), .op (some 58) none (.bin .neq (.tmp 57) (.const (.int .u8 5))), .op (some 59) none (.mov (.tmp 58)), .op (some 60) (some (59, false)) (.fa 11 (.tmp 1)), .op (some 61) (some (59, false)) (.ld1 (.tmp 60)), .op (some 62) (some (59, false)) (.lenV (.tmp 61)), .op (some 63) (some (59, false)) (.bin .geq (.tmp 62) (.const (.int .i64 1))), .op (some 64) (some (59, false)) (.mov (.tmp 63)), .op (some 65) (some (64, true)) (.fa 11 (.tmp 1)), .op (some 66) (some (64, true)) (.ld1 (.tmp 65)), .op (some 67) (some (64, true)) (.lenV (.tmp 66)), .op (some 68) (some (64, true)) (.bin .leq (.tmp 67) (.const (.int .i64 4))), .op (some 69) (some (59, false)) (.pick (.tmp 64) (.tmp 68) (.const (.bool false))), .op (some 70) (some (59, false)) (.mov (.tmp 69)), .op (some 71) (some (70, true)) (.fa 11 (.tmp 1)), .op (some 72) (some (70, true)) (.ld1 (.tmp 71)), .op (some 73) (some (70, true)) (.mov (.tmp 5)), .call (some 74) (some (70, true)) (.fn 73) [(.tmp 72), (.tmp 73)], .op (some 75) (some (70, true)) (.un .not (.tmp 74)), .op (some 76) (some (59, false)) (.pick (.tmp 70) (.tmp 75) (.const (.bool false))), .op (some 77) none (.pick (.tmp 59) (.const (.bool true)) (.tmp 76)), .op (some 2) none (.mov (.tmp 77))] [2]) .ret))))))⟩
theorem ok51 : compF Try.prog 51 hi51 = some ir51 := by kernel_rfl
def hi52 : List Hint := [.draw [.op 0, .op 1, .op 2, .op 3, .op 4, .op 5, .op 6, .op 7] [0, 1], .draw [.op 0, .op 1, .op 2, .op 3, .op 4, .op 5, .op 6, .op 7] [0, 1], .draw [.op 0, .op 1, .op 2, .op 3, .op 4, .op 5, .op 6, .op 7] [0, 1], .keep [0, 1, 31], .keep [0, 1, 31, 32], .keep [0, 1, 31, 32], .draw [.op 0, .op 1, .op 2, .op 3, .op 4, .op 5, .op 6, .op 7] [], .keep [0, 1, 31, 43], .draw [.op 0, .op 1, .op 2, .op 3, .op 4, .op 5, .op 6, .op 7] [0, 1], .draw [.op 0, .op 1, .op 2, .op 3, .op 4, .op 5, .op 6, .op 7] [0, 1], .draw [.op 0, .op 1, .op 2, .op 3, .op 4, .op 5, .op 6, .op 7] [], .keep [0, 1, 31, 69], .keep [0, 1, 31, 69], .draw [.op 0, .op 1, .op 2, .op 3, .op 4, .op 5, .op 6, .op 7] [], .keep [0, 1, 31, 80], .draw [.op 0, .op 1, .op 2, .op 3, .op 4, .op 5, .op 6, .op 7] [0, 1], .draw [.op 0, .op 1, .op 2, .op 3, .op 4, .op 5, .op 6, .op 7] [0, 1], .draw [.op 0, .op 1, .op 2, .op 3, .op 4, .op 5, .op 6, .op 7] [], .keep [0, 1, 31, 106], .keep [], .keep [0, 1, 31, 111], .draw [.op 0, .op 1, .op 2, .op 3, .op 4, .op 5, .op 6, .op 7] [], .keep [0, 1, 121], .draw [.op 0, .op 1, .op 2, .op 3, .op 4, .op 5, .op 6, .op 7] [0, 1], .draw [.op 0, .op 1, .op 2, .op 3, .op 4, .op 5, .op 6, .op 7] [0, 1], .draw [.op 0, .op 1, .op 2, .op 3, .op 4, .op 5, .op 6, .op 7] []]
def ir52 : IFun := ⟨2, [], (.seq (.draw 8 [.op (some 4) none (.mov (.tmp 0)), .op (some 5) none (.mov (.tmp 1)), .op (some 6) none (.nck (.tmp 5)), .op (some 7) none (.fa 0 (.tmp 6)), .op (some 8) none (.mkF (.method "wapentake/cmd.byte") [(.tmp 4)] []), .op (some 9) none (.nckM "wapentake/cmd.byte" [85, 98] (.tmp 8)), .op (some 10) none (.mov (.tmp 4)), .call (some 11) none (.inv (.tmp 10) [(85, 97), (98, 102)]) [(.tmp 7)]] [0, 1]) (.seq (.draw 8 [.op (some 12) none (.mov (.tmp 0)), .op (some 13) none (.mov (.tmp 1)), .op (some 14) none (.nck (.tmp 13)), .op (some 15) none (.fa 1 (.tmp 14)), .op (some 16) none (.mkF (.method "wapentake/cmd.number") [(.tmp 12)] []), .op (some 17) none (.nckM "wapentake/cmd.number" [85, 98] (.tmp 16)), .op (some 18) none (.mov (.tmp 12)), .call (some 19) none (.inv (.tmp 18) [(85, 98), (98, 103)]) [(.tmp 15)]] [0, 1]) (.seq (.draw 8 [.op (some 20) none (.mov (.tmp 0)), .op (some 21) none (.mov (.tmp 1)), .op (some 22) none (.nck (.tmp 21)), .op (some 23) none (.fa 2 (.tmp 22)), .op (some 24) none (.mkF (.method "wapentake/cmd.number") [(.tmp 20)] []), .op (some 25) none (.nckM "wapentake/cmd.number" [85, 98] (.tmp 24)), .op (some 26) none (.mov (.tmp 20)), .call (some 27) none (.inv (.tmp 26) [(85, 98), (98, 103)]) [(.tmp 23)]] [0, 1]) (.seq (.run [.op (some 28) none (.mov (.tmp 1)), .op (some 29) none (.nck (.tmp 28)), .op (some 30) none (.fa 0 (.tmp 29)), .op (some 31) none (.ld1 (.tmp 30))] [0, 1, 31]) (.block 0 (.seq (.seq (.run [.op (some 33) none (.bin .eql (.tmp 31) (.const (.int .u8 1))), .op (some 32) none (.mov (.tmp 33))] [0, 1, 31, 32]) (.cond (.tmp 32) .skip (.run [.op (some 34) none (.bin .eql (.tmp 31) (.const (.int .u8 6))), .op (some 32) none (.mov (.tmp 34))] [0, 1, 31, 32]))) (.cond (.tmp 32) (.draw 8 [.op (some 35) none (.mov (.tmp 0)), .op (some 36) none (.mov (.tmp 1)), .op (some 37) none (.nck (.tmp 36)), .op (some 38) none (.fa 10 (.tmp 37)), .op (some 39) none (.mkF (.method "wapentake/cmd.number") [(.tmp 35)] []), .op (some 40) none (.nckM "wapentake/cmd.number" [85, 98] (.tmp 39)), .op (some 41) none (.mov (.tmp 35)), .call (some 42) none (.inv (.tmp 41) [(85, 98), (98, 103)]) [(.tmp 38)]] []) (.seq (.run [.op (some 44) none (.bin .eql (.tmp 31) (.const (.int .u8 2))), .op (some 43) none (.mov (.tmp 44))] [0, 1, 31, 43]) (.cond (.tmp 43) (.seq (.draw 8 [.op (some 45) none (.mov (.tmp 0)), .op (some 46) none (.mov (.tmp 1)), .op (some 47) none (.nck (.tmp 46)), .op (some 48) none (.fa 3 (.tmp 47)), .op (some 49) none (.mkF (.method "wapentake/cmd.text") [(.tmp 45)] []), .op (some 50) none (.nckM "wapentake/cmd.text" [85, 98] (.tmp 49)), .op (some 51) none (.mov (.tmp 45)), .call (some 52) none (.inv (.tmp 51) [(85, 99), (98, 104)]) [(.tmp 48)]] [0, 1]) (.seq (.draw 8 [.op (some 53) none (.mov (.tmp 0)), .op (some 54) none (.mov (.tmp 1)), .op (some 55) none (.nck (.tmp 54)), .op (some 56) none (.fa 4 (.tmp 55)), .op (some 57) none (.mkF (.method "wapentake/cmd.text") [(.tmp 53)] []), .op (some 58) none (.nckM "wapentake/cmd.text" [85, 98] (.tmp 57)), .op (some 59) none (.mov (.tmp 53)), .call (some 60) none (.inv (.tmp 59) [(85, 99), (98, 104)]) [(.tmp 56)]] [0, 1]) (.draw 8 [.op (some 61) none (.mov (.tmp 0)), .op (some 62) none (.mov (.tmp 1)), .op (some 63) none (.nck (.tmp 62)), .op (some 64) none (.fa 9 (.tmp 63)), .op (some 65) none (.mkF (.method "wapentake/cmd.number") [(.tmp 61)] []), .op (some 66) none (.nckM "wapentake/cmd.number" [85, 98] (.tmp 65)), .op (some 67) none (.mov (.tmp 61)), .call (some 68) none (.inv (.tmp 67) [(85, 98), (98, 103)]) [(.tmp 64)]] []))) (.seq (.seq (.run [.op (some 70) none (.bin .eql (.tmp 31) (.const (.int .u8 3))), .op (some 69) none (.mov (.tmp 70))] [0, 1, 31, 69]) (.cond (.tmp 69) .skip (.run [.op (some 71) none (.bin .eql (.tmp 31) (.const (.int .u8 8))), .op (some 69) none (.mov (.tmp 71))] [0, 1, 31, 69]))) (.cond (.tmp 69) (.draw 8 [.op (some 72) none (.mov (.tmp 0)), .op (some 73) none (.mov (.tmp 1)), .op (some 74) none (.nck (.tmp 73)), .op (some 75) none (.fa 3 (.tmp 74)), .op (some 76) none (.mkF (.method "wapentake/cmd.text") [(.tmp 72)] []), .op (some 77) none (.nckM "wapentake/cmd.text" [85, 98] (.tmp 76)), .op (some 78) none (.mov (.tmp 72)), .call (some 79) none (.inv (.tmp 78) [(85, 99), (98, 104)]) [(.tmp 75)]] []) (.seq (.run [.op (some 81) none (.bin .eql (.tmp 31) (.const (.int .u8 4))), .op (some 80) none (.mov (.tmp 81))] [0, 1, 31, 80]) (.cond (.tmp 80) (.seq (.draw 8 [.op (some 82) none (.mov (.tmp 0)), .op (some 83) none (.mov (.tmp 1)), .op (some 84) none (.nck (.tmp 83)), .op (some 85) none (.fa 3 (.tmp 84)), .op (some 86) none (.mkF (.method "wapentake/cmd.text") [(.tmp 82)] []), .op (some 87) none (.nckM "wapentake/cmd.text" [85, 98] (.tmp 86)), .op (some 88) none (.mov (.tmp 82)), .call (some 89) none (.inv (.tmp 88) [(85, 99), (98, 104)]) [(.tmp 85)]] [0, 1]) (.seq (.draw 8 [.op (some 90) none (.mov (.tmp 0)), .op (some 91) none (.mov (.tmp 1)), .op (some 92) none (.nck (.tmp 91)), .op (some 93) none (.fa 5 (.tmp 92)), .op (some 94) none (.mkF (.method "wapentake/cmd.text") [(.tmp 90)] []), .op (some 95) none (.nckM "wapentake/cmd.text" [85, 98] (.tmp 94)), .op (some 96) none (.mov (.tmp 90)), .call (some 97) none (.inv (.tmp 96) [(85, 99), (98, 104)]) [(.tmp 93)]] [0, 1]) (.draw 8 [.op (some 98) none (.mov (.tmp 0)), .op (some 99) none (.mov (.tmp 1)), .op (some 100) none (.nck (.tmp 99)), .op (some 101) none (.fa 4 (.tmp 100)), .op (some 102) none (.mkF (.method "wapentake/cmd.text") [(.tmp 98)] []), .op (some 103) none (.nckM "wapentake/cmd.text" [85, 98] (.tmp 102)), .op (some 104) none (.mov (.tmp 98)), .call (some 105) none (.inv (.tmp 104) [(85, 99), (98, 104)]) [(.tmp 101)]] []))) (.seq (.run [.op (some 107) none (.bin .eql (.tmp 31) (.const (.int .u8 5))), .op (some 106) none (.mov (.tmp 107))] [0, 1, 31, 106]) (.cond (.tmp 106) (.run [.op (some 108) none (.mov (.tmp 0)), .op (some 109) none (.mov (.tmp 1)), .call (some 110) none (.fn 74) [(.tmp 108), (.tmp 109)]] []) (.seq (.run [.op (some 112) none (.bin .eql (.tmp 31) (.const (.int .u8 7))), .op (some 111) none (.mov (.tmp 112))] [0, 1, 31, 111]) (.cond (.tmp 111) (.draw 8 [.op (some 113) none (.mov (.tmp 0)), .op (some 114) none (.mov (.tmp 1)), .op (some 115) none (.nck (.tmp 114)), .op (some 116) none (.fa 9 (.tmp 115)), .op (some 117) none (.mkF (.method "wapentake/cmd.number") [(.tmp 113)] []), .op (some 118) none (.nckM "wapentake/cmd.number" [85, 98] (.tmp 117)), .op (some 119) none (.mov (.tmp 113)), .call (some 120) none (.inv (.tmp 119) [(85, 98), (98, 103)]) [(.tmp 116)]] []) (.seq (.run [.op (some 122) none (.bin .eql (.tmp 31) (.const (.int .u8 9))), .op (some 121) none (.mov (.tmp 122))] [0, 1, 121]) (.cond (.tmp 121) (.seq (.draw 8 [.op (some 123) none (.mov (.tmp 0)), .op (some 124) none (.mov (.tmp 1)), .op (some 125) none (.nck (.tmp 124)), .op (some 126) none (.fa 6 (.tmp 125)), .op (some 127) none (.mkF (.method "wapentake/cmd.text") [(.tmp 123)] []), .op (some 128) none (.nckM "wapentake/cmd.text" [85, 98] (.tmp 127)), .op (some 129) none (.mov (.tmp 123)), .call (some 130) none (.inv (.tmp 129) [(85, 99), (98, 104)]) [(.tmp 126)]] [0, 1]) (.seq (.draw 8 [.op (some 131) none (.mov (.tmp 0)), .op (some 132) none (.mov (.tmp 1)), .op (some 133) none (.nck (.tmp 132)), .op (some 134) none (.fa 7 (.tmp 133)), .op (some 135) none (.mkF (.method "wapentake/cmd.text") [(.tmp 131)] []), .op (some 136) none (.nckM "wapentake/cmd.text" [85, 98] (.tmp 135)), .op (some 137) none (.mov (.tmp 131)), .call (some 138) none (.inv (.tmp 137) [(85, 99), (98, 104)]) [(.tmp 134)]] [0, 1]) (.draw 8 [.op (some 139) none (.mov (.tmp 0)), .op (some 140) none (.mov (.tmp 1)), .op (some 141) none (.nck (.tmp 140)), .op (some 142) none (.fa 8 (.tmp 141)), .op (some 143) none (.mkF (.method "wapentake/cmd.byte") [(.tmp 139)] []), .op (some 144) none (.nckM "wapentake/cmd.byte" [85, 98] (.tmp 143)), .op (some 145) none (.mov (.tmp 139)), .call (some 146) none (.inv (.tmp 145) [(85, 97), (98, 102)]) [(.tmp 142)]] []))) .skip)))))))))))))))))))⟩
theorem ok52 : compF Try.prog 52 hi52 = some ir52 := by kernel_rfl
def hi53 : List Hint := [.keep [1], .keep [1, 3], .keep [1, 3], .keep [1, 3, 4], .keep [1, 3, 4, 8], .keep [1, 3, 4, 8, 9], .keep [3, 4], .keep [3, 4], .keep [1, 3, 4, 8, 31], .keep [3, 4], .keep [3, 4], .keep [1, 3, 4, 8, 50], .keep [3, 4], .keep [1, 3, 8, 54], .keep [3, 4], .keep [3, 4], .keep [1, 3, 8, 60], .keep [1, 3, 8, 60], .keep [1, 3, 60], .keep [3, 4], .keep [3, 4], .keep [2], .keep [2]]
def ir53 : IFun := ⟨1, [.tmp 2], (.seq (.run [.op (some 1) none (.box (.tmp 0)), .op (some 2) none (.mov (.const (.bool false)))] [1]) (.seq (.run [.op (some 5) none (.ldN 16 (.tmp 1)), .op (some 3) none (.new [(.int .u8 0), (.int .u8 0), (.int .u8 0), (.int .u8 0), (.int .u8 0), (.int .u8 0), (.int .u8 0), (.int .u8 0), (.int .u8 0), (.int .u8 0), (.int .u8 0), (.int .i64 0), (.int .i64 0), (.int .i64 0), (.int .i64 0), (.int .u8 0)]), .op none none (.st 16 (.tmp 3) (.tmp 5))] [1, 3]) (.seq (.run [.op (some 6) none (.fa 0 (.tmp 3)), .op none none (.st 1 (.tmp 6) (.const (.int .u8 0)))] [1, 3]) (.seq (.run [.op (some 4) none (.mov (.const (.bool true)))] [1, 3, 4]) (.seq (.seq (.run [.op (some 7) none (.fa 0 (.tmp 1)), .op (some 8) none (.ld1 (.tmp 7))] [1, 3, 4, 8]) (.block 0 (.seq (.run [.op (some 10) none (.bin .eql (.tmp 8) (.const (.int .u8 1))), .op (some 9) none (.mov (.tmp 10))] [1, 3, 4, 8, 9]) (.cond (.tmp 9) (.seq (.run [.op (some 11) none (.fa 1 (.tmp 1)), .op (some 12) none (.ld1 (.tmp 11)), .op (some 13) none (.bin .lss (.tmp 12) (.const (.int .u8 4))), .op (some 14) none (.mov (.tmp 13)), .op (some 15) (some (14, true)) (.fa 11 (.tmp 1)), .op (some 16) (some (14, true)) (.ld1 (.tmp 15)), .op (some 17) (some (14, true)) (.fa 12 (.tmp 1)), .op (some 18) (some (14, true)) (.ld1 (.tmp 17)), .op (some 19) (some (14, true)) (.fa 13 (.tmp 1)), .op (some 20) (some (14, true)) (.ld1 (.tmp 19)), .op (some 21) (some (14, true)) (.fa 14 (.tmp 1)), .op (some 22) (some (14, true)) (.ld1 (.tmp 21)), .op (some 23) (some (14, true)) (.bsl 1 4 [(.int .i64 0), (.int .i64 0), (.int .i64 0), (.int .i64 0)] [(0, 1, (.tmp 16)), (1, 1, (.tmp 18)), (2, 1, (.tmp 20)), (3, 1, (.tmp 22))]), .call (some 24) (some (14, true)) (.fn 75) [(.tmp 23)], .op (some 25) none (.pick (.tmp 14) (.tmp 24) (.const (.bool false))), .op (some 4) none (.mov (.tmp 25))] [3, 4]) (.run [.op (some 26) none (.fa 1 (.tmp 3)), .op none none (.st 1 (.tmp 26) (.const (.int .u8 0))), .op (some 27) none (.fa 11 (.tmp 3)), .op none none (.st 1 (.tmp 27) (.const (.int .i64 0))), .op (some 28) none (.fa 12 (.tmp 3)), .op none none (.st 1 (.tmp 28) (.const (.int .i64 0))), .op (some 29) none (.fa 13 (.tmp 3)), .op none none (.st 1 (.tmp 29) (.const (.int .i64 0))), .op (some 30) none (.fa 14 (.tmp 3)), .op none none (.st 1 (.tmp 30) (.const (.int .i64 0)))] [3, 4])) (.seq (.run [.op (some 32) none (.bin .eql (.tmp 8) (.const (.int .u8 2))), .op (some 31) none (.mov (.tmp 32))] [1, 3, 4, 8, 31]) (.cond (.tmp 31) (.seq (.run [.op (some 33) none (.fa 1 (.tmp 1)), .op (some 34) none (.ld1 (.tmp 33)), .op (some 35) none (.bin .lss (.tmp 34) (.const (.int .u8 4))), .op (some 36) none (.mov (.tmp 35)), .op (some 37) (some (36, true)) (.fa 10 (.tmp 1)), .op (some 38) (some (36, true)) (.ld1 (.tmp 37)), .op (some 39) (some (36, true)) (.bin .geq (.tmp 38) (.const (.int .u8 1))), .op (some 40) none (.pick (.tmp 36) (.tmp 39) (.const (.bool false))), .op (some 41) none (.mov (.tmp 40)), .op (some 42) (some (41, true)) (.fa 10 (.tmp 1)), .op (some 43) (some (41, true)) (.ld1 (.tmp 42)), .op (some 44) (some (41, true)) (.bin .leq (.tmp 43) (.const (.int .u8 3))), .op (some 45) none (.pick (.tmp 41) (.tmp 44) (.const (.bool false))), .op (some 4) none (.mov (.tmp 45))] [3, 4]) (.run [.op (some 46) none (.build [(.int .u8 0), (.int .u8 0), (.int .u8 0), (.int .u8 0), (.int .u8 0), (.int .u8 0), (.int .u8 0), (.int .u8 0)] []), .op (some 47) none (.fa 1 (.tmp 3)), .op none none (.st 1 (.tmp 47) (.const (.int .u8 0))), .op (some 48) none (.fa 2 (.tmp 3)), .op none none (.st 8 (.tmp 48) (.tmp 46)), .op (some 49) none (.fa 10 (.tmp 3)), .op none none (.st 1 (.tmp 49) (.const (.int .u8 0)))] [3, 4])) (.seq (.run [.op (some 51) none (.bin .eql (.tmp 8) (.const (.int .u8 3))), .op (some 50) none (.mov (.tmp 51))] [1, 3, 4, 8, 50]) (.cond (.tmp 50) (.run [.op (some 52) none (.build [(.int .u8 0), (.int .u8 0), (.int .u8 0), (.int .u8 0), (.int .u8 0), (.int .u8 0), (.int .u8 0), (.int .u8 0)] []), .op (some 53) none (.fa 2 (.tmp 3)), .op none none (.st 8 (.tmp 53) (.tmp 52))] [3, 4]) (.seq (.run [.op (some 55) none (.bin .eql (.tmp 8) (.const (.int .u8 4))), .op (some 54) none (.mov (.tmp 55))] [1, 3, 8, 54]) (.cond (.tmp 54) (.seq (.run [.op (some 56) none (.fa 1 (.tmp 1)), .op (some 57) none (.ld1 (.tmp 56)), .op (some 58) none (.bin .lss (.tmp 57) (.const (.int .u8 4))), .op (some 4) none (.mov (.tmp 58))] [3, 4]) (.run [.op (some 59) none (.fa 1 (.tmp 3)), .op none none (.st 1 (.tmp 59) (.const (.int .u8 0)))] [3, 4])) (.seq (.seq (.run [.op (some 61) none (.bin .eql (.tmp 8) (.const (.int .u8 5))), .op (some 60) none (.mov (.tmp 61))] [1, 3, 8, 60]) (.cond (.tmp 60) .skip (.seq (.run [.op (some 62) none (.bin .eql (.tmp 8) (.const (.int .u8 6))), .op (some 60) none (.mov (.tmp 62))] [1, 3, 8, 60]) (.cond (.tmp 60) .skip (.run [.op (some 63) none (.bin .eql (.tmp 8) (.const (.int .u8 7))), .op (some 60) none (.mov (.tmp 63))] [1, 3, 60]))))) (.cond (.tmp 60) (.seq (.run [.op (some 64) none (.fa 15 (.tmp 1)), .op (some 65) none (.ld1 (.tmp 64)), .op (some 66) none (.bin .geq (.tmp 65) (.const (.int .u8 1))), .op (some 67) none (.mov (.tmp 66)), .op (some 68) (some (67, true)) (.fa 15 (.tmp 1)), .op (some 69) (some (67, true)) (.ld1 (.tmp 68)), .op (some 70) (some (67, true)) (.bin .leq (.tmp 69) (.const (.int .u8 5))), .op (some 71) none (.pick (.tmp 67) (.tmp 70) (.const (.bool false))), .op (some 4) none (.mov (.tmp 71))] [3, 4]) (.run [.op (some 72) none (.fa 15 (.tmp 3)), .op none none (.st 1 (.tmp 72) (.const (.int .u8 0)))] [3, 4])) (.seq (.run [.op (some 2) none (.mov (.const (.bool false)))] [2]) .ret))))))))))))) (.seq (.run [.op (some 73) none (.mov (.tmp 4)), .op (some 74) none (.mov (.tmp 73)), .op (some 75) (some (74, true)) (.ldN 16 (.tmp 3)), .op (some 76) (some (74, true)) (.build [(.int .u8 0), (.int .u8 0), (.int .u8 0), (.int .u8 0), (.int .u8 0), (.int .u8 0), (.int .u8 0), (.int .u8 0), (.int .u8 0), (.int .u8 0), (.int .u8 0), (.int .i64 0), (.int .i64 0), (.int .i64 0), (.int .i64 0), (.int .u8 0)] []), .op (some 77) (some (74, true)) (.eqq false (.agg [(0, 1), (1, 1), (2, 1), (3, 1), (4, 1), (5, 1), (6, 1), (7, 1), (8, 1), (9, 1), (10, 1), (11, 1), (12, 1), (13, 1), (14, 1), (15, 1)]) (.tmp 75) (.tmp 76)), .op (some 78) none (.pick (.tmp 74) (.tmp 77) (.const (.bool false))), .op (some 2) none (.mov (.tmp 78))] [2]) .ret))))))⟩
theorem ok53 : compF Try.prog 53 hi53 = some ir53 := by kernel_rfl
def hi54 : List Hint := [.draw [.op 0, .op 1, .op 2, .op 3, .op 4, .op 5, .op 6, .op 7] [0, 1], .keep [0, 1, 18], .keep [0, 1, 18, 19], .draw [.op 0, .op 1, .op 2, .op 3, .op 4, .op 5, .op 6, .op 7] [0, 1], .draw [.op 0, .op 1, .op 2, .op 3, .op 4, .op 5, .op 6, .op 7, .op 8, .op 9, .op 10, .op 11, .op 14, .opA 12, .op 13] [0, 41, 42, 43], .keep [0, 41, 42, 43], .keep [0, 41, 42, 43, 44], .keep [0, 5, 41, 42, 43], .keep [0, 5, 6, 41, 42, 43], .keep [0, 5, 6, 41, 42, 43], .keep [0, 41, 42, 43], .keep [0, 41, 42, 43], .keep [0, 1, 18, 59], .draw [.op 0, .op 1, .op 2, .op 3, .op 4, .op 5, .op 6, .op 7] [0, 1], .draw [.op 0, .op 1, .op 2, .op 3, .op 4, .op 5, .op 6, .op 7] [0, 1], .draw [.op 0, .op 1, .op 2, .op 3, .op 4, .op 5, .op 6, .op 7] [], .keep [0, 1, 18, 85], .draw [.op 0, .op 1, .op 2, .op 3, .op 4, .op 5, .op 6, .op 7] [], .keep [0, 1, 18, 95], .draw [.op 0, .op 1, .op 2, .op 3, .op 4, .op 5, .op 6, .op 7] [], .keep [0, 1, 18, 105], .keep [0, 1, 18, 105], .keep [0, 1, 105], .draw [.op 0, .op 1, .op 2, .op 3, .op 4, .op 5, .op 6, .op 7] []]
def ir54 : IFun := ⟨2, [], (.seq (.draw 8 [.op (some 7) none (.mov (.tmp 0)), .op (some 8) none (.mov (.tmp 1)), .op (some 9) none (.nck (.tmp 8)), .op (some 10) none (.fa 0 (.tmp 9)), .op (some 11) none (.mkF (.method "wapentake/cmd.byte") [(.tmp 7)] []), .op (some 12) none (.nckM "wapentake/cmd.byte" [85, 98] (.tmp 11)), .op (some 13) none (.mov (.tmp 7)), .call (some 14) none (.inv (.tmp 13) [(85, 97), (98, 102)]) [(.tmp 10)]] [0, 1]) (.seq (.run [.op (some 15) none (.mov (.tmp 1)), .op (some 16) none (.nck (.tmp 15)), .op (some 17) none (.fa 0 (.tmp 16)), .op (some 18) none (.ld1 (.tmp 17))] [0, 1, 18]) (.block 0 (.seq (.run [.op (some 20) none (.bin .eql (.tmp 18) (.const (.int .u8 1))), .op (some 19) none (.mov (.tmp 20))] [0, 1, 18, 19]) (.cond (.tmp 19) (.seq (.draw 8 [.op (some 21) none (.mov (.tmp 0)), .op (some 22) none (.mov (.tmp 1)), .op (some 23) none (.nck (.tmp 22)), .op (some 24) none (.fa 1 (.tmp 23)), .op (some 25) none (.mkF (.method "wapentake/cmd.byte") [(.tmp 21)] []), .op (some 26) none (.nckM "wapentake/cmd.byte" [85, 98] (.tmp 25)), .op (some 27) none (.mov (.tmp 21)), .call (some 28) none (.inv (.tmp 27) [(85, 97), (98, 102)]) [(.tmp 24)]] [0, 1]) (.seq (.draw 15 [.op (some 29) none (.mov (.tmp 1)), .op (some 30) none (.nck (.tmp 29)), .op (some 31) none (.fa 11 (.tmp 30)), .op (some 32) none (.mov (.tmp 1)), .op (some 33) none (.nck (.tmp 32)), .op (some 34) none (.fa 12 (.tmp 33)), .op (some 35) none (.mov (.tmp 1)), .op (some 36) none (.nck (.tmp 35)), .op (some 37) none (.fa 13 (.tmp 36)), .op (some 38) none (.mov (.tmp 1)), .op (some 39) none (.nck (.tmp 38)), .op (some 40) none (.fa 14 (.tmp 39)), .op (some 43) none (.mov (.const (.int .i64 0))), .opA (some 41) none (.bsl 1 4 [(.pointer none), (.pointer none), (.pointer none), (.pointer none)] [(0, 1, (.tmp 31)), (1, 1, (.tmp 34)), (2, 1, (.tmp 37)), (3, 1, (.tmp 40))]) 12, .op (some 42) none (.lenV (.tmp 41))] [0, 41, 42, 43]) (.block 1 (.loop [0, 41, 42, 43] (.seq (.run [.op (some 44) none (.bin .lss (.tmp 43) (.tmp 42))] [0, 41, 42, 43, 44]) (.seq (.cond (.tmp 44) .skip (.exit 1)) (.seq (.block 2 (.seq (.run [.op (some 45) none (.iaV 1 (.tmp 41) (.tmp 43)), .op (some 46) none (.ld1 (.tmp 45)), .op (some 5) none (.mov (.tmp 46))] [0, 5, 41, 42, 43]) (.seq (.run [.op (some 47) none (.mov (.tmp 5)), .op (some 48) none (.nck (.tmp 47)), .op (some 49) none (.ld1 (.tmp 48)), .op (some 50) none (.cvI .u64 (.tmp 49)), .op (some 6) none (.new [(.int .u64 0)]), .op none none (.st 1 (.tmp 6) (.tmp 50))] [0, 5, 6, 41, 42, 43]) (.seq (.run [.op (some 51) none (.mov (.tmp 0)), .call (some 52) none (.inv (.tmp 51) [(85, 98), (98, 103)]) [(.tmp 6)]] [0, 5, 6, 41, 42, 43]) (.run [.op (some 53) none (.mov (.tmp 5)), .op (some 54) none (.ld1 (.tmp 6)), .op (some 55) none (.mm true (.tmp 54) (.const (.int .u64 4294967296))), .op (some 56) none (.cvI .i64 (.tmp 55)), .op (some 57) none (.nck (.tmp 53)), .op none none (.st 1 (.tmp 57) (.tmp 56))] [0, 41, 42, 43]))))) (.run [.op (some 58) none (.bin .add (.tmp 43) (.const (.int .i64 1))), .op (some 43) none (.mov (.tmp 58))] [0, 41, 42, 43])))))))) (.seq (.run [.op (some 60) none (.bin .eql (.tmp 18) (.const (.int .u8 2))), .op (some 59) none (.mov (.tmp 60))] [0, 1, 18, 59]) (.cond (.tmp 59) (.seq (.draw 8 [.op (some 61) none (.mov (.tmp 0)), .op (some 62) none (.mov (.tmp 1)), .op (some 63) none (.nck (.tmp 62)), .op (some 64) none (.fa 1 (.tmp 63)), .op (some 65) none (.mkF (.method "wapentake/cmd.byte") [(.tmp 61)] []), .op (some 66) none (.nckM "wapentake/cmd.byte" [85, 98] (.tmp 65)), .op (some 67) none (.mov (.tmp 61)), .call (some 68) none (.inv (.tmp 67) [(85, 97), (98, 102)]) [(.tmp 64)]] [0, 1]) (.seq (.draw 8 [.op (some 69) none (.mov (.tmp 0)), .op (some 70) none (.mov (.tmp 1)), .op (some 71) none (.nck (.tmp 70)), .op (some 72) none (.fa 2 (.tmp 71)), .op (some 73) none (.mkF (.method "wapentake/cmd.token") [(.tmp 69)] []), .op (some 74) none (.nckM "wapentake/cmd.token" [85, 98] (.tmp 73)), .op (some 75) none (.mov (.tmp 69)), .call (some 76) none (.inv (.tmp 75) [(85, 100), (98, 105)]) [(.tmp 72)]] [0, 1]) (.draw 8 [.op (some 77) none (.mov (.tmp 0)), .op (some 78) none (.mov (.tmp 1)), .op (some 79) none (.nck (.tmp 78)), .op (some 80) none (.fa 10 (.tmp 79)), .op (some 81) none (.mkF (.method "wapentake/cmd.byte") [(.tmp 77)] []), .op (some 82) none (.nckM "wapentake/cmd.byte" [85, 98] (.tmp 81)), .op (some 83) none (.mov (.tmp 77)), .call (some 84) none (.inv (.tmp 83) [(85, 97), (98, 102)]) [(.tmp 80)]] []))) (.seq (.run [.op (some 86) none (.bin .eql (.tmp 18) (.const (.int .u8 3))), .op (some 85) none (.mov (.tmp 86))] [0, 1, 18, 85]) (.cond (.tmp 85) (.draw 8 [.op (some 87) none (.mov (.tmp 0)), .op (some 88) none (.mov (.tmp 1)), .op (some 89) none (.nck (.tmp 88)), .op (some 90) none (.fa 2 (.tmp 89)), .op (some 91) none (.mkF (.method "wapentake/cmd.token") [(.tmp 87)] []), .op (some 92) none (.nckM "wapentake/cmd.token" [85, 98] (.tmp 91)), .op (some 93) none (.mov (.tmp 87)), .call (some 94) none (.inv (.tmp 93) [(85, 100), (98, 105)]) [(.tmp 90)]] []) (.seq (.run [.op (some 96) none (.bin .eql (.tmp 18) (.const (.int .u8 4))), .op (some 95) none (.mov (.tmp 96))] [0, 1, 18, 95]) (.cond (.tmp 95) (.draw 8 [.op (some 97) none (.mov (.tmp 0)), .op (some 98) none (.mov (.tmp 1)), .op (some 99) none (.nck (.tmp 98)), .op (some 100) none (.fa 1 (.tmp 99)), .op (some 101) none (.mkF (.method "wapentake/cmd.byte") [(.tmp 97)] []), .op (some 102) none (.nckM "wapentake/cmd.byte" [85, 98] (.tmp 101)), .op (some 103) none (.mov (.tmp 97)), .call (some 104) none (.inv (.tmp 103) [(85, 97), (98, 102)]) [(.tmp 100)]] []) (.seq (.seq (.run [.op (some 106) none (.bin .eql (.tmp 18) (.const (.int .u8 5))), .op (some 105) none (.mov (.tmp 106))] [0, 1, 18, 105]) (.cond (.tmp 105) .skip (.seq (.run [.op (some 107) none (.bin .eql (.tmp 18) (.const (.int .u8 6))), .op (some 105) none (.mov (.tmp 107))] [0, 1, 18, 105]) (.cond (.tmp 105) .skip (.run [.op (some 108) none (.bin .eql (.tmp 18) (.const (.int .u8 7))), .op (some 105) none (.mov (.tmp 108))] [0, 1, 105]))))) (.cond (.tmp 105) (.draw 8 [.op (some 109) none (.mov (.tmp 0)), .op (some 110) none (.mov (.tmp 1)), .op (some 111) none (.nck (.tmp 110)), .op (some 112) none (.fa 15 (.tmp 111)), .op (some 113) none (.mkF (.method "wapentake/cmd.byte") [(.tmp 109)] []), .op (some 114) none (.nckM "wapentake/cmd.byte" [85, 98] (.tmp 113)), .op (some 115) none (.mov (.tmp 109)), .call (some 116) none (.inv (.tmp 115) [(85, 97), (98, 102)]) [(.tmp 112)]] []) .skip)))))))))))))⟩
theorem ok54 : compF Try.prog 54 hi54 = some ir54 := by kernel_rfl
def hi55 : List Hint := [.keep [1], .keep [2]]
def ir55 : IFun := ⟨1, [.tmp 2], (.seq (.run [.op (some 1) none (.box (.tmp 0)), .op (some 2) none (.mov (.const (.bool false)))] [1]) (.seq (.run [.op (some 3) none (.fa 0 (.tmp 1)), .op (some 4) none (.ld1 (.tmp 3)), .op (some 5) none (.bin .eql (.tmp 4) (.const (.int .u8 0))), .op (some 6) none (.mov (.tmp 5)), .op (some 7) (some (6, true)) (.fa 1 (.tmp 1)), .op (some 8) (some (6, true)) (.ld1 (.tmp 7)), .op (some 9) (some (6, true)) (.bin .eql (.tmp 8) (.const (.int .u64 0))), .op (some 10) none (.pick (.tmp 6) (.tmp 9) (.const (.bool false))), .op (some 11) none (.mov (.tmp 10)), .op (some 12) (some (11, true)) (.fa 2 (.tmp 1)), .op (some 13) (some (11, true)) (.ld1 (.tmp 12)), .op (some 14) (some (11, true)) (.bin .eql (.tmp 13) (.const (.string ⟨#[]⟩))), .op (some 15) none (.pick (.tmp 11) (.tmp 14) (.const (.bool false))), .op (some 16) none (.mov (.tmp 15)), .op (some 17) (some (16, true)) (.fa 3 (.tmp 1)), .op (some 18) (some (16, true)) (.ld1 (.tmp 17)), .op (some 19) (some (16, true)) (.lenV (.tmp 18)), .op (some 20) (some (16, true)) (.bin .eql (.tmp 19) (.const (.int .i64 0))), .op (some 21) none (.pick (.tmp 16) (.tmp 20) (.const (.bool false))), .op (some 2) none (.mov (.tmp 21))] [2]) .ret))⟩
theorem ok55 : compF Try.prog 55 hi55 = some ir55 := by kernel_rfl
def hi56 : List Hint := [.keep [0, 1], .keep [0, 1, 5], .draw [.op 0, .op 1, .op 2, .op 3, .op 4, .op 5, .op 6, .op 7] [0, 1, 5], .draw [.op 0, .op 1, .op 2, .op 3, .op 4, .op 5, .op 6, .op 7] [0, 1, 5], .draw [.op 0, .op 1, .op 2, .op 3, .op 4, .op 5, .op 6, .op 7] [0, 5], .keep [5], .keep [4]]
def ir56 : IFun := ⟨2, [.tmp 4], (.seq (.run [.op (some 4) none (.mov (.const (.int .u64 0)))] [0, 1]) (.seq (.run [.op (some 6) none (.mov (.tmp 1)), .op (some 7) none (.nck (.tmp 6)), .op (some 8) none (.fa 3 (.tmp 7)), .op (some 9) none (.ld1 (.tmp 8)), .op (some 10) none (.lenV (.tmp 9)), .op (some 11) none (.cvI .u64 (.tmp 10)), .op (some 5) none (.new [(.int .u64 0)]), .op none none (.st 1 (.tmp 5) (.tmp 11))] [0, 1, 5]) (.seq (.draw 8 [.op (some 12) none (.mov (.tmp 0)), .op (some 13) none (.mov (.tmp 1)), .op (some 14) none (.nck (.tmp 13)), .op (some 15) none (.fa 0 (.tmp 14)), .op (some 16) none (.mkF (.method "wapentake/cmd.byte") [(.tmp 12)] []), .op (some 17) none (.nckM "wapentake/cmd.byte" [85, 98] (.tmp 16)), .op (some 18) none (.mov (.tmp 12)), .call (some 19) none (.inv (.tmp 18) [(85, 97), (98, 102)]) [(.tmp 15)]] [0, 1, 5]) (.seq (.draw 8 [.op (some 20) none (.mov (.tmp 0)), .op (some 21) none (.mov (.tmp 1)), .op (some 22) none (.nck (.tmp 21)), .op (some 23) none (.fa 1 (.tmp 22)), .op (some 24) none (.mkF (.method "wapentake/cmd.number") [(.tmp 20)] []), .op (some 25) none (.nckM "wapentake/cmd.number" [85, 98] (.tmp 24)), .op (some 26) none (.mov (.tmp 20)), .call (some 27) none (.inv (.tmp 26) [(85, 98), (98, 103)]) [(.tmp 23)]] [0, 1, 5]) (.seq (.draw 8 [.op (some 28) none (.mov (.tmp 0)), .op (some 29) none (.mov (.tmp 1)), .op (some 30) none (.nck (.tmp 29)), .op (some 31) none (.fa 2 (.tmp 30)), .op (some 32) none (.mkF (.method "wapentake/cmd.text") [(.tmp 28)] []), .op (some 33) none (.nckM "wapentake/cmd.text" [85, 98] (.tmp 32)), .op (some 34) none (.mov (.tmp 28)), .call (some 35) none (.inv (.tmp 34) [(85, 99), (98, 104)]) [(.tmp 31)]] [0, 5]) (.seq (.run [.op (some 36) none (.mov (.tmp 0)), .call (some 37) none (.inv (.tmp 36) [(85, 98), (98, 103)]) [(.tmp 5)]] [5]) (.seq (.run [.op (some 38) none (.ld1 (.tmp 5)), .op (some 4) none (.mov (.tmp 38))] [4]) .ret)))))))⟩
theorem ok56 : compF Try.prog 56 hi56 = some ir56 := by kernel_rfl
def hi57 : List Hint := [.draw [.op 0, .op 1, .op 2, .op 3, .op 4, .op 5, .op 6, .op 7] [0, 1], .draw [.op 0, .op 1, .op 2, .op 3, .op 4, .op 5, .op 6, .op 7] [0, 1], .draw [.op 0, .op 1, .op 2, .op 3, .op 4, .op 5, .op 6, .op 7] []]
def ir57 : IFun := ⟨2, [], (.seq (.draw 8 [.op (some 4) none (.mov (.tmp 0)), .op (some 5) none (.mov (.tmp 1)), .op (some 6) none (.nck (.tmp 5)), .op (some 7) none (.fa 0 (.tmp 6)), .op (some 8) none (.mkF (.method "wapentake/cmd.text") [(.tmp 4)] []), .op (some 9) none (.nckM "wapentake/cmd.text" [85, 98] (.tmp 8)), .op (some 10) none (.mov (.tmp 4)), .call (some 11) none (.inv (.tmp 10) [(85, 99), (98, 104)]) [(.tmp 7)]] [0, 1]) (.seq (.draw 8 [.op (some 12) none (.mov (.tmp 0)), .op (some 13) none (.mov (.tmp 1)), .op (some 14) none (.nck (.tmp 13)), .op (some 15) none (.fa 1 (.tmp 14)), .op (some 16) none (.mkF (.method "wapentake/cmd.text") [(.tmp 12)] []), .op (some 17) none (.nckM "wapentake/cmd.text" [85, 98] (.tmp 16)), .op (some 18) none (.mov (.tmp 12)), .call (some 19) none (.inv (.tmp 18) [(85, 99), (98, 104)]) [(.tmp 15)]] [0, 1]) (.draw 8 [.op (some 20) none (.mov (.tmp 0)), .op (some 21) none (.mov (.tmp 1)), .op (some 22) none (.nck (.tmp 21)), .op (some 23) none (.fa 2 (.tmp 22)), .op (some 24) none (.mkF (.method "wapentake/cmd.number") [(.tmp 20)] []), .op (some 25) none (.nckM "wapentake/cmd.number" [85, 98] (.tmp 24)), .op (some 26) none (.mov (.tmp 20)), .call (some 27) none (.inv (.tmp 26) [(85, 98), (98, 103)]) [(.tmp 23)]] [])))⟩
theorem ok57 : compF Try.prog 57 hi57 = some ir57 := by kernel_rfl
def hi58 : List Hint := [.keep [0], .keep [2]]
def ir58 : IFun := ⟨1, [.tmp 2], (.seq (.run [.op (some 2) none (.mov (.const (.bool false)))] [0]) (.seq (.run [.op (some 3) none (.mov (.tmp 0)), .op (some 4) none (.nck (.tmp 3)), .op (some 5) none (.fa 1 (.tmp 4)), .op (some 6) none (.ld1 (.tmp 5)), .op (some 7) none (.un .not (.tmp 6)), .op (some 8) none (.mov (.tmp 7)), .op (some 9) (some (8, true)) (.mov (.tmp 0)), .op (some 10) (some (8, true)) (.nck (.tmp 9)), .op (some 11) (some (8, true)) (.fa 0 (.tmp 10)), .op (some 12) (some (8, true)) (.ld1 (.tmp 11)), .op (some 13) (some (8, true)) (.bin .eql (.tmp 12) (.const (.string ⟨#[]⟩))), .op (some 14) none (.pick (.tmp 8) (.tmp 13) (.const (.bool false))), .op (some 2) none (.mov (.tmp 14))] [2]) .ret))⟩
theorem ok58 : compF Try.prog 58 hi58 = some ir58 := by kernel_rfl
end Go.Proofs.Yteikngjiaboeaaa.IrAll
namespace Go.Proofs.Yteikngjiaboeaaa.IrAll
open Go Go.Proofs.Yteikngjiaboeaaa.Am
def hi71 : List Hint := [.keep [1, 2], .keep [1, 2, 4], .keep [1, 2, 4, 5], .keep [1, 2, 4, 5], .keep [1, 2], .keep [1, 2, 4, 9], .keep [1, 2], .keep [1, 2, 4, 14], .keep [1, 2, 4, 14], .keep [1, 2], .keep [1, 2, 4, 18], .keep [1, 2], .keep [1, 2, 4, 23], .keep [1, 2], .keep [1, 2, 4, 26], .keep [1, 2], .keep [1, 2, 29], .keep [1, 2], .keep [2]]
def ir71 : IFun := ⟨1, [.cell 2 (some 12)], (.seq (.run [.op (some 1) none (.box (.tmp 0)), .op (some 2) none (.new [(.int .u8 0), (.int .u64 0), (.int .u64 0), (.string ⟨#[]⟩), (.string ⟨#[]⟩), (.string ⟨#[]⟩), (.string ⟨#[]⟩), (.string ⟨#[]⟩), (.int .u8 0), (.int .u64 0), (.int .u64 0), (.slice none 0 0)])] [1, 2]) (.seq (.seq (.run [.op (some 3) none (.fa 0 (.tmp 1)), .op (some 4) none (.ld1 (.tmp 3))] [1, 2, 4]) (.block 0 (.seq (.seq (.run [.op (some 6) none (.bin .eql (.tmp 4) (.const (.int .u8 1))), .op (some 5) none (.mov (.tmp 6))] [1, 2, 4, 5]) (.cond (.tmp 5) .skip (.run [.op (some 7) none (.bin .eql (.tmp 4) (.const (.int .u8 6))), .op (some 5) none (.mov (.tmp 7))] [1, 2, 4, 5]))) (.cond (.tmp 5) (.run [.op (some 8) none (.fa 10 (.tmp 1)), .op none none (.st 1 (.tmp 8) (.const (.int .u64 0)))] [1, 2]) (.seq (.run [.op (some 10) none (.bin .eql (.tmp 4) (.const (.int .u8 2))), .op (some 9) none (.mov (.tmp 10))] [1, 2, 4, 9]) (.cond (.tmp 9) (.run [.op (some 11) none (.fa 3 (.tmp 1)), .op none none (.st 1 (.tmp 11) (.const (.string ⟨#[]⟩))), .op (some 12) none (.fa 4 (.tmp 1)), .op none none (.st 1 (.tmp 12) (.const (.string ⟨#[]⟩))), .op (some 13) none (.fa 9 (.tmp 1)), .op none none (.st 1 (.tmp 13) (.const (.int .u64 0)))] [1, 2]) (.seq (.seq (.run [.op (some 15) none (.bin .eql (.tmp 4) (.const (.int .u8 3))), .op (some 14) none (.mov (.tmp 15))] [1, 2, 4, 14]) (.cond (.tmp 14) .skip (.run [.op (some 16) none (.bin .eql (.tmp 4) (.const (.int .u8 8))), .op (some 14) none (.mov (.tmp 16))] [1, 2, 4, 14]))) (.cond (.tmp 14) (.run [.op (some 17) none (.fa 3 (.tmp 1)), .op none none (.st 1 (.tmp 17) (.const (.string ⟨#[]⟩)))] [1, 2]) (.seq (.run [.op (some 19) none (.bin .eql (.tmp 4) (.const (.int .u8 4))), .op (some 18) none (.mov (.tmp 19))] [1, 2, 4, 18]) (.cond (.tmp 18) (.run [.op (some 20) none (.fa 3 (.tmp 1)), .op none none (.st 1 (.tmp 20) (.const (.string ⟨#[]⟩))), .op (some 21) none (.fa 5 (.tmp 1)), .op none none (.st 1 (.tmp 21) (.const (.string ⟨#[]⟩))), .op (some 22) none (.fa 4 (.tmp 1)), .op none none (.st 1 (.tmp 22) (.const (.string ⟨#[]⟩)))] [1, 2]) (.seq (.run [.op (some 24) none (.bin .eql (.tmp 4) (.const (.int .u8 5))), .op (some 23) none (.mov (.tmp 24))] [1, 2, 4, 23]) (.cond (.tmp 23) (.run [.op (some 25) none (.fa 11 (.tmp 1)), .op none none (.st 1 (.tmp 25) (.const (.slice none 0 0)))] [1, 2]) (.seq (.run [.op (some 27) none (.bin .eql (.tmp 4) (.const (.int .u8 7))), .op (some 26) none (.mov (.tmp 27))] [1, 2, 4, 26]) (.cond (.tmp 26) (.run [.op (some 28) none (.fa 9 (.tmp 1)), .op none none (.st 1 (.tmp 28) (.const (.int .u64 0)))] [1, 2]) (.seq (.run [.op (some 30) none (.bin .eql (.tmp 4) (.const (.int .u8 9))), .op (some 29) none (.mov (.tmp 30))] [1, 2, 29]) (.cond (.tmp 29) (.run [.op (some 31) none (.fa 6 (.tmp 1)), .op none none (.st 1 (.tmp 31) (.const (.string ⟨#[]⟩))), .op (some 32) none (.fa 7 (.tmp 1)), .op none none (.st 1 (.tmp 32) (.const (.string ⟨#[]⟩))), .op (some 33) none (.fa 8 (.tmp 1)), .op none none (.st 1 (.tmp 33) (.const (.int .u8 0)))] [1, 2]) .skip)))))))))))))))) (.seq (.run [.op (some 34) none (.ldN 12 (.tmp 1)), .op none none (.st 12 (.tmp 2) (.tmp 34))] [2]) .ret)))⟩
theorem ok71 : compF Try.prog 71 hi71 = some ir71 := by kernel_rfl
def hi72 : List Hint := [.keep [1], .keep [2]]
def ir72 : IFun := ⟨1, [.tmp 2], (.seq (.run [.op (some 1) none (.box (.tmp 0)), .op (some 2) none (.mov (.const (.bool false)))] [1]) (.seq (.run [.op (some 3) none (.fa 0 (.tmp 1)), .op (some 4) none (.ld1 (.tmp 3)), .op (some 5) none (.bin .neq (.tmp 4) (.const (.int .u8 2))), .op (some 6) none (.mov (.tmp 5)), .op (some 7) (some (6, true)) (.fa 0 (.tmp 1)), .op (some 8) (some (6, true)) (.ld1 (.tmp 7)), .op (some 9) (some (6, true)) (.bin .neq (.tmp 8) (.const (.int .u8 3))), .op (some 10) (some (6, true)) (.mov (.tmp 9)), .op (some 11) (some (10, false)) (.fa 2 (.tmp 1)), .op (some 12) (some (10, false)) (.ld1 (.tmp 11)), .op (some 13) (some (10, false)) (.bin .neq (.tmp 12) (.const (.string ⟨#[]⟩))), .op (some 14) (some (6, true)) (.pick (.tmp 10) (.const (.bool true)) (.tmp 13)), .op (some 15) none (.pick (.tmp 6) (.tmp 14) (.const (.bool false))), .op (some 2) none (.mov (.tmp 15))] [2]) .ret))⟩
theorem ok72 : compF Try.prog 72 hi72 = some ir72 := by kernel_rfl
def hi73 : List Hint := [.keep [0, 1], .keep [4]]
def ir73 : IFun := ⟨2, [.tmp 4], (.seq (.run [.op (some 4) none (.mov (.const (.bool false)))] [0, 1]) (.seq (.run [.op (some 5) none (.mov (.tmp 0)), .op (some 6) none (.mov (.tmp 1)), .call (some 7) none (.fn 78) [(.tmp 5), (.tmp 6)], .op (some 8) none (.bin .geq (.tmp 7) (.const (.int .i64 0))), .op (some 4) none (.mov (.tmp 8))] [4]) .ret))⟩
theorem ok73 : compF Try.prog 73 hi73 = some ir73 := by kernel_rfl
def hi74 : List Hint := [.keep [0, 1, 4], .keep [0, 1, 4], .keep [0, 1, 17, 18], .keep [0, 1, 17, 18], .keep [0, 1, 17, 18, 19], .keep [0, 1, 5, 17, 18], .keep [0, 1, 5, 17, 18, 27], .keep [0, 1, 5, 17, 18], .keep [0, 1, 6, 17, 18], .draw [.op 0, .op 1, .op 2, .op 3, .op 4, .op 5, .op 6, .op 7] [0, 1, 6, 17, 18], .draw [.op 0, .op 1, .op 2, .op 3, .op 4, .op 5, .op 6, .op 7] [0, 1, 6, 17, 18], .keep [0, 1, 6, 17, 18, 64], .draw [.op 0, .op 1, .op 2, .op 3, .op 4, .op 5, .op 6, .op 7] [0, 1, 17, 18], .keep [0, 1, 17, 18]]
def ir74 : IFun := ⟨2, [], (.seq (.run [.op (some 7) none (.mov (.tmp 1)), .op (some 8) none (.nck (.tmp 7)), .op (some 9) none (.fa 11 (.tmp 8)), .op (some 10) none (.ld1 (.tmp 9)), .op (some 11) none (.lenV (.tmp 10)), .op (some 12) none (.cvI .u8 (.tmp 11)), .op (some 4) none (.new [(.int .u8 0)]), .op none none (.st 1 (.tmp 4) (.tmp 12))] [0, 1, 4]) (.seq (.run [.op (some 13) none (.mov (.tmp 0)), .call (some 14) none (.inv (.tmp 13) [(85, 97), (98, 102)]) [(.tmp 4)]] [0, 1, 4]) (.seq (.run [.op (some 15) none (.ld1 (.tmp 4)), .op (some 16) none (.cvI .i64 (.tmp 15)), .op (some 17) none (.mm true (.tmp 16) (.const (.int .i64 4))), .op (some 18) none (.mov (.const (.int .i64 0)))] [0, 1, 17, 18]) (.block 0 (.loop [0, 1, 17, 18] (.seq (.run [.op (some 19) none (.bin .lss (.tmp 18) (.tmp 17))] [0, 1, 17, 18, 19]) (.seq (.cond (.tmp 19) .skip (.exit 0)) (.seq (.block 1 (.seq (.run [.op (some 20) none (.mov (.tmp 18)), .op (some 5) none (.mov (.tmp 20))] [0, 1, 5, 17, 18]) (.seq (.seq (.run [.op (some 21) none (.mov (.tmp 5)), .op (some 22) none (.mov (.tmp 1)), .op (some 23) none (.nck (.tmp 22)), .op (some 24) none (.fa 11 (.tmp 23)), .op (some 25) none (.ld1 (.tmp 24)), .op (some 26) none (.lenV (.tmp 25)), .op (some 27) none (.bin .eql (.tmp 21) (.tmp 26))] [0, 1, 5, 17, 18, 27]) (.cond (.tmp 27) (.run [.op (some 28) none (.mov (.tmp 1)), .op (some 29) none (.mov (.tmp 1)), .op (some 30) none (.nck (.tmp 29)), .op (some 31) none (.fa 11 (.tmp 30)), .op (some 32) none (.ld1 (.tmp 31)), .op (some 33) none (.build [(.int .u8 0), (.string ⟨#[]⟩), (.string ⟨#[]⟩)] []), .op (some 34) none (.bsl 3 1 [(.int .u8 0), (.string ⟨#[]⟩), (.string ⟨#[]⟩)] [(0, 3, (.tmp 33))]), .op (some 35) none (.app 3 40 (.tmp 32) (.tmp 34)), .op (some 36) none (.nck (.tmp 28)), .op (some 37) none (.fa 11 (.tmp 36)), .op none none (.st 1 (.tmp 37) (.tmp 35))] [0, 1, 5, 17, 18]) .skip)) (.seq (.run [.op (some 38) none (.mov (.tmp 1)), .op (some 39) none (.nck (.tmp 38)), .op (some 40) none (.fa 11 (.tmp 39)), .op (some 41) none (.ld1 (.tmp 40)), .op (some 42) none (.mov (.tmp 5)), .op (some 43) none (.iaV 3 (.tmp 41) (.tmp 42)), .op (some 6) none (.mov (.tmp 43))] [0, 1, 6, 17, 18]) (.seq (.draw 8 [.op (some 44) none (.mov (.tmp 0)), .op (some 45) none (.mov (.tmp 6)), .op (some 46) none (.nck (.tmp 45)), .op (some 47) none (.fa 0 (.tmp 46)), .op (some 48) none (.mkF (.method "wapentake/cmd.byte") [(.tmp 44)] []), .op (some 49) none (.nckM "wapentake/cmd.byte" [85, 98] (.tmp 48)), .op (some 50) none (.mov (.tmp 44)), .call (some 51) none (.inv (.tmp 50) [(85, 97), (98, 102)]) [(.tmp 47)]] [0, 1, 6, 17, 18]) (.seq (.draw 8 [.op (some 52) none (.mov (.tmp 0)), .op (some 53) none (.mov (.tmp 6)), .op (some 54) none (.nck (.tmp 53)), .op (some 55) none (.fa 1 (.tmp 54)), .op (some 56) none (.mkF (.method "wapentake/cmd.text") [(.tmp 52)] []), .op (some 57) none (.nckM "wapentake/cmd.text" [85, 98] (.tmp 56)), .op (some 58) none (.mov (.tmp 52)), .call (some 59) none (.inv (.tmp 58) [(85, 99), (98, 104)]) [(.tmp 55)]] [0, 1, 6, 17, 18]) (.seq (.run [.op (some 60) none (.mov (.tmp 6)), .op (some 61) none (.nck (.tmp 60)), .op (some 62) none (.fa 0 (.tmp 61)), .op (some 63) none (.ld1 (.tmp 62)), .op (some 64) none (.bin .eql (.tmp 63) (.const (.int .u8 2)))] [0, 1, 6, 17, 18, 64]) (.cond (.tmp 64) (.draw 8 [.op (some 65) none (.mov (.tmp 0)), .op (some 66) none (.mov (.tmp 6)), .op (some 67) none (.nck (.tmp 66)), .op (some 68) none (.fa 2 (.tmp 67)), .op (some 69) none (.mkF (.method "wapentake/cmd.text") [(.tmp 65)] []), .op (some 70) none (.nckM "wapentake/cmd.text" [85, 98] (.tmp 69)), .op (some 71) none (.mov (.tmp 65)), .call (some 72) none (.inv (.tmp 71) [(85, 99), (98, 104)]) [(.tmp 68)]] [0, 1, 17, 18]) .skip)))))))) (.run [.op (some 73) none (.bin .add (.tmp 18) (.const (.int .i64 1))), .op (some 18) none (.mov (.tmp 73))] [0, 1, 17, 18])))))))))⟩
theorem ok74 : compF Try.prog 74 hi74 = some ir74 := by kernel_rfl
def hi75 : List Hint := [.keep [0], .keep [2]]
def ir75 : IFun := ⟨1, [.tmp 2], (.seq (.run [.op (some 2) none (.mov (.const (.bool false)))] [0]) (.seq (.run [.op (some 3) none (.mov (.tmp 0)), .call (some 4) none (.fn 79) [(.tmp 3), (.func 80)], .op (some 5) none (.un .not (.tmp 4)), .op (some 2) none (.mov (.tmp 5))] [2]) .ret))⟩
theorem ok75 : compF Try.prog 75 hi75 = some ir75 := by kernel_rfl
def hi78 : List Hint := [.keep [0, 1], .keep [0, 1, 7, 8], .keep [0, 1, 7, 8], .keep [0, 1, 7, 8, 9], .keep [0, 1, 5, 7, 8], .keep [0, 1, 5, 7, 8, 16], .keep [4], .keep [0, 1, 7, 8], .keep [4]]
def ir78 : IFun := ⟨2, [.tmp 4], (.seq (.run [.op (some 4) none (.mov (.const (.int .i64 0)))] [0, 1]) (.seq (.seq (.run [.op (some 6) none (.mov (.tmp 0)), .op (some 7) none (.lenV (.tmp 6)), .op (some 8) none (.mov (.const (.int .i64 0)))] [0, 1, 7, 8]) (.block 0 (.loop [0, 1, 7, 8] (.seq (.run [.op (some 9) none (.bin .lss (.tmp 8) (.tmp 7))] [0, 1, 7, 8, 9]) (.seq (.cond (.tmp 9) .skip (.exit 0)) (.seq (.block 1 (.seq (.run [.op (some 10) none (.mov (.tmp 8)), .op (some 5) none (.mov (.tmp 10))] [0, 1, 5, 7, 8]) (.seq (.run [.op (some 11) none (.mov (.tmp 1)), .op (some 12) none (.mov (.tmp 0)), .op (some 13) none (.mov (.tmp 5)), .op (some 14) none (.iaV 3 (.tmp 12) (.tmp 13)), .op (some 15) none (.ldN 3 (.tmp 14)), .call (some 16) none (.val (.tmp 11)) [(.tmp 15)]] [0, 1, 5, 7, 8, 16]) (.cond (.tmp 16) (.seq (.run [.op (some 17) none (.mov (.tmp 5)), .op (some 4) none (.mov (.tmp 17))] [4]) .ret) .skip)))) (.run [.op (some 18) none (.bin .add (.tmp 8) (.const (.int .i64 1))), .op (some 8) none (.mov (.tmp 18))] [0, 1, 7, 8]))))))) (.seq (.run [.op (some 4) none (.mov (.const (.int .i64 (-1))))] [4]) .ret)))⟩
theorem ok78 : compF Try.prog 78 hi78 = some ir78 := by kernel_rfl
def hi79 : List Hint := [.keep [0, 1], .keep [4]]
def ir79 : IFun := ⟨2, [.tmp 4], (.seq (.run [.op (some 4) none (.mov (.const (.bool false)))] [0, 1]) (.seq (.run [.op (some 5) none (.mov (.tmp 0)), .op (some 6) none (.mov (.tmp 1)), .call (some 7) none (.fn 81) [(.tmp 5), (.tmp 6)], .op (some 8) none (.bin .geq (.tmp 7) (.const (.int .i64 0))), .op (some 4) none (.mov (.tmp 8))] [4]) .ret))⟩
theorem ok79 : compF Try.prog 79 hi79 = some ir79 := by kernel_rfl
def hi80 : List Hint := [.keep [0], .keep [2]]
def ir80 : IFun := ⟨1, [.tmp 2], (.seq (.run [.op (some 2) none (.mov (.const (.bool false)))] [0]) (.seq (.run [.op (some 3) none (.mov (.tmp 0)), .op (some 4) none (.bin .lss (.tmp 3) (.const (.int .i64 0))), .op (some 5) none (.mov (.tmp 4)), .op (some 6) (some (5, false)) (.mov (.tmp 0)), .op (some 7) (some (5, false)) (.bin .gtr (.tmp 6) (.const (.int .i64 2147483647))), .op (some 8) none (.pick (.tmp 5) (.const (.bool true)) (.tmp 7)), .op (some 2) none (.mov (.tmp 8))] [2]) .ret))⟩
theorem ok80 : compF Try.prog 80 hi80 = some ir80 := by kernel_rfl
def hi81 : List Hint := [.keep [0, 1], .keep [0, 1, 7, 8], .keep [0, 1, 7, 8], .keep [0, 1, 7, 8, 9], .keep [0, 1, 5, 7, 8], .keep [0, 1, 5, 7, 8, 16], .keep [4], .keep [0, 1, 7, 8], .keep [4]]
def ir81 : IFun := ⟨2, [.tmp 4], (.seq (.run [.op (some 4) none (.mov (.const (.int .i64 0)))] [0, 1]) (.seq (.seq (.run [.op (some 6) none (.mov (.tmp 0)), .op (some 7) none (.lenV (.tmp 6)), .op (some 8) none (.mov (.const (.int .i64 0)))] [0, 1, 7, 8]) (.block 0 (.loop [0, 1, 7, 8] (.seq (.run [.op (some 9) none (.bin .lss (.tmp 8) (.tmp 7))] [0, 1, 7, 8, 9]) (.seq (.cond (.tmp 9) .skip (.exit 0)) (.seq (.block 1 (.seq (.run [.op (some 10) none (.mov (.tmp 8)), .op (some 5) none (.mov (.tmp 10))] [0, 1, 5, 7, 8]) (.seq (.run [.op (some 11) none (.mov (.tmp 1)), .op (some 12) none (.mov (.tmp 0)), .op (some 13) none (.mov (.tmp 5)), .op (some 14) none (.iaV 1 (.tmp 12) (.tmp 13)), .op (some 15) none (.ld1 (.tmp 14)), .call (some 16) none (.val (.tmp 11)) [(.tmp 15)]] [0, 1, 5, 7, 8, 16]) (.cond (.tmp 16) (.seq (.run [.op (some 17) none (.mov (.tmp 5)), .op (some 4) none (.mov (.tmp 17))] [4]) .ret) .skip)))) (.run [.op (some 18) none (.bin .add (.tmp 8) (.const (.int .i64 1))), .op (some 8) none (.mov (.tmp 18))] [0, 1, 7, 8]))))))) (.seq (.run [.op (some 4) none (.mov (.const (.int .i64 (-1))))] [4]) .ret)))⟩
theorem ok81 : compF Try.prog 81 hi81 = some ir81 := by kernel_rfl
def hi97 : List Hint := [.draw [.op 0, .op 1, .op 2, .op 3, .op 4, .op 5, .op 6, .op 7, .opA 8, .op 9, .op 10, .op 11, .op 12] []]
def ir97 : IFun := ⟨2, [], (.draw 13 [.op (some 4) none (.mov (.tmp 0)), .op (some 5) none (.mov (.tmp 0)), .op (some 6) none (.nck (.tmp 5)), .op (some 7) none (.fa 0 (.tmp 6)), .op (some 8) none (.ld1 (.tmp 7)), .op (some 9) none (.mov (.tmp 1)), .op (some 10) none (.nck (.tmp 9)), .op (some 11) none (.ld1 (.tmp 10)), .opA (some 12) none (.bsl 1 1 [(.int .u8 0)] [(0, 1, (.tmp 11))]) 8, .op (some 13) none (.app 1 1 (.tmp 8) (.tmp 12)), .op (some 14) none (.nck (.tmp 4)), .op (some 15) none (.fa 0 (.tmp 14)), .op none none (.st 1 (.tmp 15) (.tmp 13))] [])⟩
theorem ok97 : compF Try.prog 97 hi97 = some ir97 := by kernel_rfl
def hi98 : List Hint := [.draw [.op 0, .op 1, .op 2, .op 3, .op 4, .op 5, .op 6, .op 7, .opA 8, .op 9, .chk 4, .op 10, .op 11, .op 12, .op 13] []]
def ir98 : IFun := ⟨2, [], (.draw 14 [.op (some 4) none (.mov (.tmp 0)), .op (some 5) none (.mov (.tmp 0)), .op (some 6) none (.nck (.tmp 5)), .op (some 7) none (.fa 0 (.tmp 6)), .op (some 8) none (.ld1 (.tmp 7)), .op (some 9) none (.mov (.tmp 1)), .op (some 10) none (.nck (.tmp 9)), .op (some 11) none (.ld1 (.tmp 10)), .opA (some 12) none (.bsl 1 1 [(.int .u64 0)] [(0, 1, (.tmp 11))]) 8, .call (some 13) none (.fn 29) [(.tmp 12)], .chk 8 none (.ld1 (.tmp 7)), .op (some 14) none (.app 1 1 (.tmp 8) (.tmp 13)), .op (some 15) none (.nck (.tmp 4)), .op (some 16) none (.fa 0 (.tmp 15)), .op none none (.st 1 (.tmp 16) (.tmp 14))] [])⟩
theorem ok98 : compF Try.prog 98 hi98 = some ir98 := by kernel_rfl
def hi99 : List Hint := [.draw [.op 0, .op 1, .op 2, .op 3, .op 4, .op 5, .op 6, .op 7, .opA 8, .op 9, .chk 4, .op 10, .op 11, .op 12, .op 13] []]
def ir99 : IFun := ⟨2, [], (.draw 14 [.op (some 4) none (.mov (.tmp 0)), .op (some 5) none (.mov (.tmp 0)), .op (some 6) none (.nck (.tmp 5)), .op (some 7) none (.fa 0 (.tmp 6)), .op (some 8) none (.ld1 (.tmp 7)), .op (some 9) none (.mov (.tmp 1)), .op (some 10) none (.nck (.tmp 9)), .op (some 11) none (.ld1 (.tmp 10)), .opA (some 12) none (.bsl 1 1 [(.string ⟨#[]⟩)] [(0, 1, (.tmp 11))]) 8, .call (some 13) none (.fn 101) [(.tmp 12)], .chk 8 none (.ld1 (.tmp 7)), .op (some 14) none (.app 1 1 (.tmp 8) (.tmp 13)), .op (some 15) none (.nck (.tmp 4)), .op (some 16) none (.fa 0 (.tmp 15)), .op none none (.st 1 (.tmp 16) (.tmp 14))] [])⟩
theorem ok99 : compF Try.prog 99 hi99 = some ir99 := by kernel_rfl
def hi100 : List Hint := [.draw [.op 0, .op 1, .op 2, .op 3, .op 4, .op 5, .op 6, .op 7, .op 8, .op 9, .op 10, .op 11] []]
def ir100 : IFun := ⟨2, [], (.draw 12 [.op (some 4) none (.mov (.tmp 0)), .op (some 5) none (.mov (.tmp 0)), .op (some 6) none (.nck (.tmp 5)), .op (some 7) none (.fa 0 (.tmp 6)), .op (some 8) none (.ld1 (.tmp 7)), .op (some 9) none (.mov (.tmp 1)), .op (some 10) none (.nck (.tmp 9)), .op (some 11) none (.slA 8 1 (.tmp 10) none none none), .op (some 12) none (.app 1 1 (.tmp 8) (.tmp 11)), .op (some 13) none (.nck (.tmp 4)), .op (some 14) none (.fa 0 (.tmp 13)), .op none none (.st 1 (.tmp 14) (.tmp 12))] [])⟩
theorem ok100 : compF Try.prog 100 hi100 = some ir100 := by kernel_rfl
def hi101 : List Hint := [.keep [0], .keep [0, 3], .keep [3, 6, 7, 8], .keep [3, 6, 7, 8], .keep [3, 6, 7, 8, 9], .keep [3, 5, 6, 7, 8], .keep [3, 6, 7, 8], .keep [3, 6, 7, 8], .keep [2]]
def ir101 : IFun := ⟨1, [.tmp 2], (.seq (.run [.op (some 2) none (.mov (.const (.string ⟨#[]⟩)))] [0]) (.seq (.run [.op (some 3) none (.mov (.const (.string ⟨#[]⟩)))] [0, 3]) (.seq (.seq (.run [.op (some 6) none (.mov (.tmp 0)), .op (some 7) none (.lenV (.tmp 6)), .op (some 8) none (.mov (.const (.int .i64 0)))] [3, 6, 7, 8]) (.block 0 (.loop [3, 6, 7, 8] (.seq (.run [.op (some 9) none (.bin .lss (.tmp 8) (.tmp 7))] [3, 6, 7, 8, 9]) (.seq (.cond (.tmp 9) .skip (.exit 0)) (.seq (.block 1 (.seq (.run [.op (some 10) none (.iaV 1 (.tmp 6) (.tmp 8)), .op (some 11) none (.ld1 (.tmp 10)), .op (some 5) none (.mov (.tmp 11))] [3, 5, 6, 7, 8]) (.run [.op (some 12) none (.mov (.tmp 3)), .op (some 13) none (.mov (.tmp 5)), .op (some 14) none (.lenS (.tmp 13)), .op (some 15) none (.cvI .u64 (.tmp 14)), .op (some 16) none (.bsl 1 1 [(.int .u64 0)] [(0, 1, (.tmp 15))]), .call (some 17) none (.fn 29) [(.tmp 16)], .op (some 18) none (.mov (.tmp 5)), .op (some 19) none (.bin .add (.tmp 17) (.tmp 18)), .op (some 20) none (.bin .add (.tmp 12) (.tmp 19)), .op (some 3) none (.mov (.tmp 20))] [3, 6, 7, 8]))) (.run [.op (some 21) none (.bin .add (.tmp 8) (.const (.int .i64 1))), .op (some 8) none (.mov (.tmp 21))] [3, 6, 7, 8]))))))) (.seq (.run [.op (some 22) none (.mov (.tmp 3)), .op (some 2) none (.mov (.tmp 22))] [2]) .ret))))⟩
theorem ok101 : compF Try.prog 101 hi101 = some ir101 := by kernel_rfl
def hi102 : List Hint := [.keep [0, 1, 4], .keep [1, 4, 10], .keep []]
def ir102 : IFun := ⟨2, [], (.seq (.run [.op (some 5) none (.mov (.tmp 0)), .op (some 6) none (.nck (.tmp 5)), .op (some 7) none (.fa 0 (.tmp 6)), .op (some 8) none (.ld1 (.tmp 7)), .op (some 4) none (.mov (.tmp 8))] [0, 1, 4]) (.seq (.run [.op (some 9) none (.mov (.tmp 0)), .call (some 10) none (.fn 106) [(.tmp 9), (.const (.int .i64 1)), (.const (.bool true))]] [1, 4, 10]) (.cond (.tmp 10) (.run [.op (some 11) none (.mov (.tmp 1)), .op (some 12) none (.mov (.tmp 4)), .op (some 13) none (.ixS (.tmp 12) (.const (.int .i64 0))), .op (some 14) none (.nck (.tmp 11)), .op none none (.st 1 (.tmp 14) (.tmp 13))] []) .skip)))⟩
theorem ok102 : compF Try.prog 102 hi102 = some ir102 := by kernel_rfl
def hi103 : List Hint := [.keep [0, 1, 4, 5, 6], .keep [1, 4, 19], .keep []]
def ir103 : IFun := ⟨2, [], (.seq (.run [.op (some 8) none (.mov (.tmp 0)), .op (some 9) none (.nck (.tmp 8)), .op (some 10) none (.fa 0 (.tmp 9)), .op (some 11) none (.ld1 (.tmp 10)), .call (some 12) none (.fn 34) [(.tmp 11)], .op (some 7) none (.mov (.tmp 12)), .op (some 13) none (.ext (.tmp 7) 0), .op (some 14) none (.ext (.tmp 7) 1), .op (some 15) none (.ext (.tmp 7) 2), .op (some 4) none (.mov (.tmp 13)), .op (some 5) none (.mov (.tmp 14)), .op (some 6) none (.mov (.tmp 15))] [0, 1, 4, 5, 6]) (.seq (.run [.op (some 16) none (.mov (.tmp 0)), .op (some 17) none (.mov (.tmp 5)), .op (some 18) none (.mov (.tmp 6)), .call (some 19) none (.fn 106) [(.tmp 16), (.tmp 17), (.tmp 18)]] [1, 4, 19]) (.cond (.tmp 19) (.run [.op (some 20) none (.mov (.tmp 1)), .op (some 21) none (.mov (.tmp 4)), .op (some 22) none (.nck (.tmp 20)), .op none none (.st 1 (.tmp 22) (.tmp 21))] []) .skip)))⟩
theorem ok103 : compF Try.prog 103 hi103 = some ir103 := by kernel_rfl
def hi104 : List Hint := [.keep [0, 1, 4, 5, 6], .keep [1, 4, 19], .keep []]
def ir104 : IFun := ⟨2, [], (.seq (.run [.op (some 8) none (.mov (.tmp 0)), .op (some 9) none (.nck (.tmp 8)), .op (some 10) none (.fa 0 (.tmp 9)), .op (some 11) none (.ld1 (.tmp 10)), .call (some 12) none (.fn 107) [(.tmp 11)], .op (some 7) none (.mov (.tmp 12)), .op (some 13) none (.ext (.tmp 7) 0), .op (some 14) none (.ext (.tmp 7) 1), .op (some 15) none (.ext (.tmp 7) 2), .op (some 4) none (.mov (.tmp 13)), .op (some 5) none (.mov (.tmp 14)), .op (some 6) none (.mov (.tmp 15))] [0, 1, 4, 5, 6]) (.seq (.run [.op (some 16) none (.mov (.tmp 0)), .op (some 17) none (.mov (.tmp 5)), .op (some 18) none (.mov (.tmp 6)), .call (some 19) none (.fn 106) [(.tmp 16), (.tmp 17), (.tmp 18)]] [1, 4, 19]) (.cond (.tmp 19) (.run [.op (some 20) none (.mov (.tmp 1)), .op (some 21) none (.mov (.tmp 4)), .op (some 22) none (.nck (.tmp 20)), .op none none (.st 1 (.tmp 22) (.tmp 21))] []) .skip)))⟩
theorem ok104 : compF Try.prog 104 hi104 = some ir104 := by kernel_rfl
def hi105 : List Hint := [.keep [0, 1, 4], .keep [1, 4, 10], .keep []]
def ir105 : IFun := ⟨2, [], (.seq (.run [.op (some 5) none (.mov (.tmp 0)), .op (some 6) none (.nck (.tmp 5)), .op (some 7) none (.fa 0 (.tmp 6)), .op (some 8) none (.ld1 (.tmp 7)), .op (some 4) none (.mov (.tmp 8))] [0, 1, 4]) (.seq (.run [.op (some 9) none (.mov (.tmp 0)), .call (some 10) none (.fn 106) [(.tmp 9), (.const (.int .i64 8)), (.const (.bool true))]] [1, 4, 10]) (.cond (.tmp 10) (.run [.op (some 11) none (.mov (.tmp 1)), .op (some 12) none (.nck (.tmp 11)), .op (some 13) none (.slA 8 1 (.tmp 12) none none none), .op (some 14) none (.mov (.tmp 4)), .op (some 15) none (.cpy 1 (.tmp 13) (.tmp 14))] []) .skip)))⟩
theorem ok105 : compF Try.prog 105 hi105 = some ir105 := by kernel_rfl
def hi106 : List Hint := [.keep [0, 1, 2], .keep [0, 1], .keep [0, 1, 30], .keep [6], .keep [], .keep [6]]
def ir106 : IFun := ⟨3, [.tmp 6], (.seq (.run [.op (some 6) none (.mov (.const (.bool false)))] [0, 1, 2]) (.seq (.seq (.run [.op (some 7) none (.mov (.tmp 0)), .op (some 8) none (.mov (.tmp 0)), .op (some 9) none (.nck (.tmp 8)), .op (some 10) none (.fa 1 (.tmp 9)), .op (some 11) none (.ld1 (.tmp 10)), .op (some 12) none (.mov (.tmp 11)), .op (some 13) (some (12, false)) (.mov (.tmp 2)), .op (some 14) (some (12, false)) (.un .not (.tmp 13)), .op (some 15) none (.pick (.tmp 12) (.const (.bool true)) (.tmp 14)), .op (some 16) none (.mov (.tmp 15)), .op (some 17) (some (16, false)) (.mov (.tmp 1)), .op (some 18) (some (16, false)) (.mov (.tmp 0)), .op (some 19) (some (16, false)) (.nck (.tmp 18)), .op (some 20) (some (16, false)) (.fa 0 (.tmp 19)), .op (some 21) (some (16, false)) (.ld1 (.tmp 20)), .op (some 22) (some (16, false)) (.lenS (.tmp 21)), .op (some 23) (some (16, false)) (.bin .gtr (.tmp 17) (.tmp 22)), .op (some 24) none (.pick (.tmp 16) (.const (.bool true)) (.tmp 23)), .op (some 25) none (.nck (.tmp 7)), .op (some 26) none (.fa 1 (.tmp 25)), .op none none (.st 1 (.tmp 26) (.tmp 24))] [0, 1]) (.seq (.run [.op (some 27) none (.mov (.tmp 0)), .op (some 28) none (.nck (.tmp 27)), .op (some 29) none (.fa 1 (.tmp 28)), .op (some 30) none (.ld1 (.tmp 29))] [0, 1, 30]) (.cond (.tmp 30) (.seq (.run [.op (some 6) none (.mov (.const (.bool false)))] [6]) .ret) .skip))) (.seq (.run [.op (some 31) none (.mov (.tmp 0)), .op (some 32) none (.mov (.tmp 0)), .op (some 33) none (.nck (.tmp 32)), .op (some 34) none (.fa 0 (.tmp 33)), .op (some 35) none (.ld1 (.tmp 34)), .op (some 36) none (.mov (.tmp 1)), .op (some 37) none (.slS (.tmp 35) (some (.tmp 36)) none), .op (some 38) none (.nck (.tmp 31)), .op (some 39) none (.fa 0 (.tmp 38)), .op none none (.st 1 (.tmp 39) (.tmp 37))] []) (.seq (.run [.op (some 6) none (.mov (.const (.bool true)))] [6]) .ret))))⟩
theorem ok106 : compF Try.prog 106 hi106 = some ir106 := by kernel_rfl
def hi107 : List Hint := [.keep [0], .keep [0, 4, 5, 6], .keep [0, 5, 6, 23], .keep [2, 3, 4], .keep [2, 3, 4]]
def ir107 : IFun := ⟨1, [.tmp 2, .tmp 3, .tmp 4], (.seq (.run [.op (some 2) none (.mov (.const (.string ⟨#[]⟩))), .op (some 3) none (.mov (.const (.int .i64 0))), .op (some 4) none (.mov (.const (.bool false)))] [0]) (.seq (.run [.op (some 8) none (.mov (.tmp 0)), .call (some 9) none (.fn 34) [(.tmp 8)], .op (some 7) none (.mov (.tmp 9)), .op (some 10) none (.ext (.tmp 7) 0), .op (some 11) none (.ext (.tmp 7) 1), .op (some 12) none (.ext (.tmp 7) 2), .op (some 5) none (.mov (.tmp 10)), .op (some 6) none (.mov (.tmp 11)), .op (some 4) none (.mov (.tmp 12))] [0, 4, 5, 6]) (.seq (.seq (.run [.op (some 13) none (.mov (.tmp 4)), .op (some 14) none (.un .not (.tmp 13)), .op (some 15) none (.mov (.tmp 14)), .op (some 16) (some (15, false)) (.mov (.tmp 5)), .op (some 17) (some (15, false)) (.mov (.tmp 0)), .op (some 18) (some (15, false)) (.lenS (.tmp 17)), .op (some 19) (some (15, false)) (.mov (.tmp 6)), .op (some 20) (some (15, false)) (.bin .sub (.tmp 18) (.tmp 19)), .op (some 21) (some (15, false)) (.cvI .u64 (.tmp 20)), .op (some 22) (some (15, false)) (.bin .gtr (.tmp 16) (.tmp 21)), .op (some 23) none (.pick (.tmp 15) (.const (.bool true)) (.tmp 22))] [0, 5, 6, 23]) (.cond (.tmp 23) (.seq (.run [.op (some 2) none (.mov (.const (.string ⟨#[]⟩))), .op (some 3) none (.mov (.const (.int .i64 0))), .op (some 4) none (.mov (.const (.bool false)))] [2, 3, 4]) .ret) .skip)) (.seq (.run [.op (some 24) none (.mov (.tmp 0)), .op (some 25) none (.mov (.tmp 6)), .op (some 26) none (.mov (.tmp 6)), .op (some 27) none (.mov (.tmp 5)), .op (some 28) none (.cvI .i64 (.tmp 27)), .op (some 29) none (.bin .add (.tmp 26) (.tmp 28)), .op (some 30) none (.slS (.tmp 24) (some (.tmp 25)) (some (.tmp 29))), .op (some 31) none (.mov (.tmp 6)), .op (some 32) none (.mov (.tmp 5)), .op (some 33) none (.cvI .i64 (.tmp 32)), .op (some 34) none (.bin .add (.tmp 31) (.tmp 33)), .op (some 2) none (.mov (.tmp 30)), .op (some 3) none (.mov (.tmp 34)), .op (some 4) none (.mov (.const (.bool true)))] [2, 3, 4]) .ret))))⟩
theorem ok107 : compF Try.prog 107 hi107 = some ir107 := by kernel_rfl
end Go.Proofs.Yteikngjiaboeaaa.IrAll
namespace Go.Proofs.Yteikngjiaboeaaa.IrAll
open Go Go.Proofs.Yteikngjiaboeaaa.Am
def tabC : Nat → Option FD
  | 6 => some (.code ir6)
  | 9 => some (.code ir9)
  | 10 => some (.code ir10)
  | 11 => some (.code ir11)
  | 12 => some (.code ir12)
  | 13 => some (.code ir13)
  | 14 => some (.code ir14)
  | 15 => some (.code ir15)
  | 16 => some (.code ir16)
  | 22 => some (.code ir22)
  | 24 => some (.code ir24)
  | 25 => some (.code ir25)
  | 26 => some (.code ir26)
  | 27 => some (.code ir27)
  | 28 => some (.code ir28)
  | 29 => some (.code ir29)
  | 30 => some (.code ir30)
  | 31 => some (.code ir31)
  | 32 => some (.code ir32)
  | 33 => some (.code ir33)
  | 34 => some (.code ir34)
  | 35 => some (.code ir35)
  | 36 => some (.code ir36)
  | 39 => some (.code ir39)
  | 50 => some (.code ir50)
  | 51 => some (.code ir51)
  | 52 => some (.code ir52)
  | 53 => some (.code ir53)
  | 54 => some (.code ir54)
  | 55 => some (.code ir55)
  | 56 => some (.code ir56)
  | 57 => some (.code ir57)
  | 58 => some (.code ir58)
  | 71 => some (.code ir71)
  | 72 => some (.code ir72)
  | 73 => some (.code ir73)
  | 74 => some (.code ir74)
  | 75 => some (.code ir75)
  | 78 => some (.code ir78)
  | 79 => some (.code ir79)
  | 80 => some (.code ir80)
  | 81 => some (.code ir81)
  | 97 => some (.code ir97)
  | 98 => some (.code ir98)
  | 99 => some (.code ir99)
  | 100 => some (.code ir100)
  | 101 => some (.code ir101)
  | 102 => some (.code ir102)
  | 103 => some (.code ir103)
  | 104 => some (.code ir104)
  | 105 => some (.code ir105)
  | 106 => some (.code ir106)
  | 107 => some (.code ir107)
  | _ => none
theorem tabCOK : TabOK Try.prog tabC := by
  intro f d h
  unfold tabC at h
  split at h
  · cases h; exact ⟨hi6, ok6⟩
  · cases h; exact ⟨hi9, ok9⟩
  · cases h; exact ⟨hi10, ok10⟩
  · cases h; exact ⟨hi11, ok11⟩
  · cases h; exact ⟨hi12, ok12⟩
  · cases h; exact ⟨hi13, ok13⟩
  · cases h; exact ⟨hi14, ok14⟩
  · cases h; exact ⟨hi15, ok15⟩
  · cases h; exact ⟨hi16, ok16⟩
  · cases h; exact ⟨hi22, ok22⟩
  · cases h; exact ⟨hi24, ok24⟩
  · cases h; exact ⟨hi25, ok25⟩
  · cases h; exact ⟨hi26, ok26⟩
  · cases h; exact ⟨hi27, ok27⟩
  · cases h; exact ⟨hi28, ok28⟩
  · cases h; exact ⟨hi29, ok29⟩
  · cases h; exact ⟨hi30, ok30⟩
  · cases h; exact ⟨hi31, ok31⟩
  · cases h; exact ⟨hi32, ok32⟩
  · cases h; exact ⟨hi33, ok33⟩
  · cases h; exact ⟨hi34, ok34⟩
  · cases h; exact ⟨hi35, ok35⟩
  · cases h; exact ⟨hi36, ok36⟩
  · cases h; exact ⟨hi39, ok39⟩
  · cases h; exact ⟨hi50, ok50⟩
  · cases h; exact ⟨hi51, ok51⟩
  · cases h; exact ⟨hi52, ok52⟩
  · cases h; exact ⟨hi53, ok53⟩
  · cases h; exact ⟨hi54, ok54⟩
  · cases h; exact ⟨hi55, ok55⟩
  · cases h; exact ⟨hi56, ok56⟩
  · cases h; exact ⟨hi57, ok57⟩
  · cases h; exact ⟨hi58, ok58⟩
  · cases h; exact ⟨hi71, ok71⟩
  · cases h; exact ⟨hi72, ok72⟩
  · cases h; exact ⟨hi73, ok73⟩
  · cases h; exact ⟨hi74, ok74⟩
  · cases h; exact ⟨hi75, ok75⟩
  · cases h; exact ⟨hi78, ok78⟩
  · cases h; exact ⟨hi79, ok79⟩
  · cases h; exact ⟨hi80, ok80⟩
  · cases h; exact ⟨hi81, ok81⟩
  · cases h; exact ⟨hi97, ok97⟩
  · cases h; exact ⟨hi98, ok98⟩
  · cases h; exact ⟨hi99, ok99⟩
  · cases h; exact ⟨hi100, ok100⟩
  · cases h; exact ⟨hi101, ok101⟩
  · cases h; exact ⟨hi102, ok102⟩
  · cases h; exact ⟨hi103, ok103⟩
  · cases h; exact ⟨hi104, ok104⟩
  · cases h; exact ⟨hi105, ok105⟩
  · cases h; exact ⟨hi106, ok106⟩
  · cases h; exact ⟨hi107, ok107⟩
  · cases h
theorem mixed : Try.prog.follows .mixedOrders = true := by kernel_rfl
theorem dOK : DrawOK Try.prog := drawOK mixed
def isT : Option (Value × H) → Bool
  | some (.bool true, _) => true
  | _ => false
theorem isT_some {x : Option (Value × H)} (h : isT x = true) : ∃ h2, x = some (.bool true, h2) := by
  unfold isT at h
  split at h
  · exact ⟨_, rfl⟩
  · cases h
theorem awakeRan : isT (runE tabC 4000 15 [] ⟨.leaf, 0⟩) = true := by decide +kernel
def gAw : List Value → H → Option (Value × H) := fun us h => if us = [] then some (.bool true, h) else none
theorem sAw : SoundF Try.prog 15 gAw := by
  obtain ⟨h2, hr⟩ := isT_some awakeRan
  exact SoundF.closed dOK tabCOK (v := .bool true) rfl ⟨4000, hr⟩
def tab0 : Nat → Option FD := fun f => if f = 15 then some (.spec gAw) else tabC f
theorem tab0OK : TabOK Try.prog tab0 := by
  intro f d h
  unfold tab0 at h
  split at h
  · rename_i e; subst e; cases h; exact sAw
  · exact tabCOK f d h
theorem awake_run (h : H) : Ran tab0 15 [] h (.bool true) h := Ran.spec (g := gAw) rfl rfl
end Go.Proofs.Yteikngjiaboeaaa.IrAll
namespace Go.Proofs.Yteikngjiaboeaaa.Am
open Go
set_option linter.unusedVariables false
set_option linter.unusedSimpArgs false
abbrev Seg := List (Nat × Blk)
structure Mem (base h : H) (L : List Seg) (R : List Nat) : Prop where
  wf : ∀ n B, h.get n = some B → n < h.next
  nx : base.next ≤ h.next
  sub : ∀ n B, base.get n = some B → h.get n = some B
  no : ∀ n, n < base.next → base.get n = none → h.get n = none
  own : ∀ p ∈ L.flatten, h.get p.1 = some p.2 ∧ base.next ≤ p.1 ∧ base.get p.1 = none
  nd : (L.flatten.map Prod.fst).Nodup
  res : ∀ n ∈ R, base.next ≤ n ∧ n < h.next ∧ h.get n = none
  rnd : R.Nodup
variable {base h h1 h2 h3 : H} {L L' : List Seg} {R : List Nat} {S : Seg}
theorem Mem.start (wf : ∀ n B, h.get n = some B → n < h.next) : Mem h h [] [] :=
  ⟨wf, Nat.le_refl _, fun _ _ e => e, fun _ _ e => e, fun p hp => by simp at hp, by simp, fun n hn => by simp at hn, by simp⟩
theorem Mem.here (M : Mem base h L R) : Mem h h [] [] := .start M.wf
theorem Mem.bare (M : Mem base h L R) : Mem base h L [] := ⟨M.wf, M.nx, M.sub, M.no, M.own, M.nd, fun n hn => by simp at hn, by simp⟩
theorem Mem.trans (M : Mem base h L R) (N : Mem h h2 L' []) : Mem base h2 (L' ++ L) R := by
  refine ⟨N.wf, Nat.le_trans M.nx N.nx, fun n B e => N.sub n B (M.sub n B e), fun n hn e => N.no n (Nat.lt_of_lt_of_le hn M.nx) (M.no n hn e), fun p hp => ?_, ?_, fun n hn => ?_, M.rnd⟩
  · rw [List.flatten_append, List.mem_append] at hp
    rcases hp with hp | hp
    · obtain ⟨a, b, c⟩ := N.own p hp
      refine ⟨a, Nat.le_trans M.nx b, ?_⟩
      cases e : base.get p.1 with
      | none => rfl
      | some B => have := M.wf _ _ (M.sub _ _ e); omega
    · obtain ⟨a, b, c⟩ := M.own p hp
      exact ⟨N.sub _ _ a, b, c⟩
  · rw [List.flatten_append, List.map_append, List.nodup_append]
    refine ⟨N.nd, M.nd, fun a ha b hb => ?_⟩
    obtain ⟨p, hp, rfl⟩ := List.mem_map.1 ha
    obtain ⟨q, hq, rfl⟩ := List.mem_map.1 hb
    have := (N.own p hp).2.1
    have := M.wf _ _ (M.own q hq).1
    omega
  · obtain ⟨a, b, c⟩ := M.res n hn
    exact ⟨a, Nat.lt_of_lt_of_le b N.nx, N.no n b c⟩
theorem Mem.drop (M : Mem base h (S :: L) R) : Mem base h L R :=
  ⟨M.wf, M.nx, M.sub, M.no, fun p hp => M.own p (by simp only [List.flatten_cons, List.mem_append]; exact .inr hp), by have := M.nd; rw [List.flatten_cons, List.map_append, List.nodup_append] at this; exact this.2.1, M.res, M.rnd⟩
theorem Mem.perm {L2 : List Seg} (M : Mem base h L R) (p : L2.flatten.Perm L.flatten) : Mem base h L2 R :=
  ⟨M.wf, M.nx, M.sub, M.no, fun q hq => M.own q (p.mem_iff.1 hq), (p.map Prod.fst).nodup_iff.2 M.nd, M.res, M.rnd⟩
theorem flatten_erase : ∀ {L : List Seg} {i : Nat}, L[i]? = some S → (S :: L.eraseIdx i).flatten.Perm L.flatten := by
  intro L
  induction L with
  | nil => intro i h; simp at h
  | cons T L ih =>
    intro i h
    cases i with
    | zero => simp at h; subst h; exact List.Perm.refl _
    | succ i =>
      simp at h
      have := ih h
      simp only [List.eraseIdx_cons_succ, List.flatten_cons] at this ⊢
      refine (List.Perm.trans ?_ (List.Perm.append_left T this))
      rw [← List.append_assoc, ← List.append_assoc]
      exact List.Perm.append_right _ List.perm_append_comm
theorem Mem.focus (M : Mem base h L R) (i : Nat) (hi : L[i]? = some S) : Mem base h (S :: L.eraseIdx i) R := M.perm (flatten_erase hi)
theorem Mem.nils (M : Mem base h L R) : Mem base h ([] :: L) R := M.perm (by simp)
theorem mem_flatten {p : Nat × Blk} {i : Nat} (hi : L[i]? = some S) (hp : p ∈ S) : p ∈ L.flatten := List.mem_flatten.2 ⟨S, List.mem_of_getElem? hi, hp⟩
theorem Mem.at {p : Nat} {B : Blk} (M : Mem base h L R) (i : Nat) (hi : L[i]? = some [(p, B)]) : h.get p = some B := (M.own (p, B) (mem_flatten hi (List.mem_singleton.2 rfl))).1
theorem Mem.alloc (M : Mem base h L R) (B : Blk) : Mem base (h.alloc B) ([(h.next, B)] :: L) R := by
  have hn : h.get h.next = none := by
    cases e : h.get h.next with
    | none => rfl
    | some B => have := M.wf _ _ e; omega
  have hb : base.get h.next = none := by
    cases e : base.get h.next with
    | none => rfl
    | some B => rw [M.sub _ _ e] at hn; cases hn
  refine ⟨fun n B' e => ?_, Nat.le_trans M.nx (Nat.le_succ _), fun n B' e => ?_, fun n hn2 e => ?_, fun p hp => ?_, ?_, fun n hn2 => ?_, M.rnd⟩
  · rw [H.get_alloc] at e; show n < h.next + 1
    split at e
    · omega
    · have := M.wf _ _ e; omega
  · exact H.get_old (M.wf _ _ (M.sub _ _ e)) (M.sub _ _ e)
  · rw [H.get_alloc]; have := M.nx
    rw [if_neg (by omega)]; exact M.no n hn2 e
  · rw [List.flatten_cons, List.mem_append] at hp
    rcases hp with hp | hp
    · rw [List.mem_singleton] at hp; subst hp
      exact ⟨H.get_new .., M.nx, hb⟩
    · obtain ⟨a, b, c⟩ := M.own p hp
      exact ⟨H.get_old (M.wf _ _ a) a, b, c⟩
  · rw [List.flatten_cons, List.map_append, List.nodup_append]
    refine ⟨by simp, M.nd, fun a ha b hb => ?_⟩
    simp at ha; subst ha
    obtain ⟨q, hq, rfl⟩ := List.mem_map.1 hb
    have := M.wf _ _ (M.own q hq).1
    omega
  · obtain ⟨a, b, c⟩ := M.res n hn2
    refine ⟨a, Nat.lt_succ_of_lt b, ?_⟩
    rw [H.get_alloc, if_neg (by omega)]; exact c
theorem nodup_reserve {rb : Nat} {ks : List Nat} (h : ks.Nodup) : (ks.map (rb + ·)).Nodup := by
  induction ks with
  | nil => simp
  | cons k ks ih =>
    rw [List.nodup_cons] at h
    rw [List.map_cons, List.nodup_cons]
    refine ⟨fun q => h.1 ?_, ih h.2⟩
    obtain ⟨j, hj, e⟩ := List.mem_map.1 q
    have : j = k := by omega
    subst this; exact hj
theorem Mem.up (M : Mem base h L []) {m : Nat} {ks : List Nat} (hk : (decide (ks.Nodup) && ks.all (fun k => decide (k < m))) = true) : Mem base (h.up m) L (ks.map (h.next + ·)) := by
  rw [Bool.and_eq_true] at hk
  refine ⟨fun n B e => Nat.lt_of_lt_of_le (M.wf n B e) (Nat.le_add_right _ _), Nat.le_trans M.nx (Nat.le_add_right _ _), M.sub, M.no, M.own, M.nd, fun n hn => ?_, nodup_reserve (of_decide_eq_true hk.1)⟩
  obtain ⟨k, hk1, rfl⟩ := List.mem_map.1 hn
  have hlt : k < m := of_decide_eq_true (List.all_eq_true.1 hk.2 k hk1)
  have := M.nx
  refine ⟨by omega, by rw [H.next_up]; omega, ?_⟩
  rw [H.get_up]
  cases e : h.get (h.next + k) with
  | none => rfl
  | some B => have := M.wf _ _ e; omega
theorem Mem.setR (M : Mem base h L R) {n : Nat} (j : Nat) (hj : R[j]? = some n) (B : Blk) : Mem base (h.set n (some B)) ([(n, B)] :: L) (R.eraseIdx j) := by
  have hm : n ∈ R := List.mem_of_getElem? hj
  obtain ⟨r1, r2, r3⟩ := M.res n hm
  have hb : base.get n = none := by
    cases e : base.get n with
    | none => rfl
    | some B => rw [M.sub _ _ e] at r3; cases r3
  refine ⟨fun m B' e => ?_, M.nx, fun m B' e => ?_, fun m hm2 e => ?_, fun p hp => ?_, ?_, fun m hm2 => ?_, M.rnd.sublist (List.eraseIdx_sublist ..)⟩
  · rw [H.get_set] at e; rw [H.next_set]
    split at e
    · rename_i q; subst q; exact r2
    · exact M.wf _ _ e
  · rw [H.get_set_ne _ _ (fun q => by subst q; rw [hb] at e; cases e)]; exact M.sub _ _ e
  · rw [H.get_set_ne _ _ (by omega)]; exact M.no m hm2 e
  · rw [List.flatten_cons, List.mem_append] at hp
    rcases hp with hp | hp
    · rw [List.mem_singleton] at hp; subst hp
      exact ⟨H.get_set_same .., r1, hb⟩
    · obtain ⟨a, b, c⟩ := M.own p hp
      refine ⟨?_, b, c⟩
      rw [H.get_set_ne _ _ (fun q => by rw [q, r3] at a; cases a)]; exact a
  · rw [List.flatten_cons, List.map_append, List.nodup_append]
    refine ⟨by simp, M.nd, fun a ha b hb2 => ?_⟩
    simp at ha; subst ha
    obtain ⟨q, hq, rfl⟩ := List.mem_map.1 hb2
    intro e
    have := (M.own q hq).1
    rw [← e, r3] at this; cases this
  · have hne : m ≠ n := by
      intro e; subst e
      have hlt := (List.getElem?_eq_some_iff.1 hj).1
      have hp := List.getElem?_eq_some_iff.1 hj
      have : (R.eraseIdx j).count m = R.count m - 1 := by
        rw [List.eraseIdx_eq_take_drop_succ]
        have e2 : R = R.take j ++ (m :: R.drop (j + 1)) := by
          rw [← hp.2, List.getElem_cons_drop, List.take_append_drop]
        have e3 : R.count m = (R.take j).count m + (1 + (R.drop (j+1)).count m) := by
          conv => lhs; rw [e2]
          rw [List.count_append, List.count_cons_self]; omega
        rw [List.count_append]; omega
      have h1 : R.count m ≤ 1 := List.nodup_iff_count.1 M.rnd m
      have h2 : 0 < (R.eraseIdx j).count m := List.count_pos_iff.2 hm2
      omega
    obtain ⟨a, b, c⟩ := M.res m ((List.eraseIdx_sublist ..).subset hm2)
    exact ⟨a, b, by rw [H.get_set_ne _ _ hne]; exact c⟩
theorem Mem.set {S1 S2 : Seg} {p : Nat} {B : Blk} (M : Mem base h ((S1 ++ (p, B) :: S2) :: L) R) (B' : Blk) : Mem base (h.set p (some B')) ((S1 ++ (p, B') :: S2) :: L) R := by
  obtain ⟨o1, o2, o3⟩ := M.own (p, B) (by simp)
  have hnd := M.nd
  have eq : ∀ X : Blk, ((S1 ++ (p, X) :: S2) :: L).flatten.map Prod.fst = S1.map Prod.fst ++ p :: (S2.map Prod.fst ++ L.flatten.map Prod.fst) := fun X => by simp
  rw [eq] at hnd
  have hne : ∀ q ∈ S1 ++ S2 ++ L.flatten, q.1 ≠ p := by
    intro q hq e
    rw [List.nodup_append, List.nodup_cons] at hnd
    obtain ⟨d1, ⟨d2, d3⟩, d4⟩ := hnd
    simp only [List.mem_append] at hq
    rcases hq with (hq | hq) | hq
    · exact d4 q.1 (List.mem_map_of_mem hq) p (List.mem_cons_self ..) e
    · exact d2 (by rw [← e]; exact List.mem_append_left _ (List.mem_map_of_mem hq))
    · exact d2 (by rw [← e]; exact List.mem_append_right _ (List.mem_map_of_mem hq))
  refine ⟨fun m X e => ?_, M.nx, fun m X e => ?_, fun m hm e => ?_, fun q hq => ?_, by rw [eq]; exact hnd, fun n hn => ?_, M.rnd⟩
  · rw [H.get_set] at e; rw [H.next_set]
    split at e
    · rename_i q; subst q; exact M.wf _ _ o1
    · exact M.wf _ _ e
  · rw [H.get_set_ne _ _ (fun q => by subst q; rw [o3] at e; cases e)]; exact M.sub _ _ e
  · have : base.next ≤ p := o2
    rw [H.get_set_ne _ _ (by omega)]; exact M.no m hm e
  · simp only [List.flatten_cons, List.mem_append, List.mem_cons] at hq
    have ot : ∀ q, q ∈ S1 ++ S2 ++ L.flatten → (h.set p (some B')).get q.1 = some q.2 ∧ base.next ≤ q.1 ∧ base.get q.1 = none := fun q hq => by
      rw [H.get_set_ne _ _ (hne q hq)]
      refine M.own q ?_
      simp only [List.flatten_cons, List.mem_append, List.mem_cons] at hq ⊢
      rcases hq with (a | a) | a
      · exact .inl (.inl a)
      · exact .inl (.inr (.inr a))
      · exact .inr a
    rcases hq with (a | a | a) | a
    · exact ot q (by simp only [List.mem_append]; exact .inl (.inl a))
    · subst a; exact ⟨H.get_set_same .., o2, o3⟩
    · exact ot q (by simp only [List.mem_append]; exact .inl (.inr a))
    · exact ot q (by simp only [List.mem_append]; exact .inr a)
  · obtain ⟨a, b, c⟩ := M.res n hn
    refine ⟨a, b, ?_⟩
    rw [H.get_set_ne _ _ (fun q => by subst q; rw [c] at o1; cases o1)]; exact c
theorem Mem.free {S1 S2 : Seg} {p : Nat} {B : Blk} (M : Mem base h ((S1 ++ (p, B) :: S2) :: L) R) : Mem base (h.set p none) ((S1 ++ S2) :: L) R := by
  have N := M.set B
  obtain ⟨o1, o2, o3⟩ := M.own (p, B) (by simp)
  have hnd := M.nd
  have eq : ((S1 ++ (p, B) :: S2) :: L).flatten.map Prod.fst = S1.map Prod.fst ++ p :: (S2.map Prod.fst ++ L.flatten.map Prod.fst) := by simp
  rw [eq] at hnd
  have hne : ∀ q ∈ S1 ++ S2 ++ L.flatten, q.1 ≠ p := by
    intro q hq e
    rw [List.nodup_append, List.nodup_cons] at hnd
    obtain ⟨d1, ⟨d2, d3⟩, d4⟩ := hnd
    simp only [List.mem_append] at hq
    rcases hq with (hq | hq) | hq
    · exact d4 q.1 (List.mem_map_of_mem hq) p (List.mem_cons_self ..) e
    · exact d2 (by rw [← e]; exact List.mem_append_left _ (List.mem_map_of_mem hq))
    · exact d2 (by rw [← e]; exact List.mem_append_right _ (List.mem_map_of_mem hq))
  refine ⟨fun m X e => ?_, M.nx, fun m X e => ?_, fun m hm e => ?_, fun q hq => ?_, ?_, fun n hn => ?_, M.rnd⟩
  · rw [H.get_set] at e; rw [H.next_set]
    split at e
    · cases e
    · exact M.wf _ _ e
  · rw [H.get_set_ne _ _ (fun q => by subst q; rw [o3] at e; cases e)]; exact M.sub _ _ e
  · have : base.next ≤ p := o2
    rw [H.get_set_ne _ _ (by omega)]; exact M.no m hm e
  · have hq2 : q ∈ S1 ++ S2 ++ L.flatten := by simpa using hq
    rw [H.get_set_ne _ _ (hne q hq2)]
    refine M.own q ?_
    simp only [List.flatten_cons, List.mem_append, List.mem_cons] at hq2 ⊢
    rcases hq2 with (a | a) | a
    · exact .inl (.inl a)
    · exact .inl (.inr (.inr a))
    · exact .inr a
  · have : ((S1 ++ S2) :: L).flatten.map Prod.fst = S1.map Prod.fst ++ (S2.map Prod.fst ++ L.flatten.map Prod.fst) := by simp
    rw [this]
    rw [List.nodup_append, List.nodup_cons] at hnd
    rw [List.nodup_append]
    exact ⟨hnd.1, hnd.2.1.2, fun a ha b hb => hnd.2.2 a ha b (List.mem_cons_of_mem _ hb)⟩
  · obtain ⟨a, b, c⟩ := M.res n hn
    refine ⟨a, b, ?_⟩
    rw [H.get_set]; split
    · rfl
    · exact c
variable {tab : Nat → Option FD} {Q : Ex → Env → H → Prop} {q : Env → H → Prop} {e e2 : Env}
def Cll (tab : Nat → Option FD) (f : Nat) (us : List Value) (h : H) (P : Value → H → Prop) : Prop := ∃ v h2, Ran tab f us h v h2 ∧ P v h2
def WC (tab : Nat → Option FD) (ic : IC) (e : Env) (h : H) (Q : Ex → Env → H → Prop) : Prop := ∃ x e2 h2, RanC tab ic e h x e2 h2 ∧ Q x e2 h2
def WS (tab : Nat → Option FD) (rb : Nat) (ss : List Step) (e : Env) (h : H) (q : Env → H → Prop) : Prop := ∃ e2 h2, RanS tab rb ss e h e2 h2 ∧ q e2 h2
def thenQ (tab : Nat → Option FD) (b : IC) (Q : Ex → Env → H → Prop) : Ex → Env → H → Prop
  | .norm, e, h => WC tab b e h Q
  | x, e, h => Q x e h
def blockQ (id : Nat) (Q : Ex → Env → H → Prop) : Ex → Env → H → Prop
  | .exit j, e, h => if j = id then Q .norm e h else Q (.exit j) e h
  | x, e, h => Q x e h
def endQ (rs : List RV) (P : Value → H → Prop) : Ex → Env → H → Prop
  | .exit _, _, _ => False
  | _, e, h => ∃ vs, resE rs e h = some vs ∧ P (packE vs) h
theorem Cll.code {f : Nat} {F : IFun} {us : List Value} {P : Value → H → Prop} (ht : tab f = some (.code F)) (hl : us.length = F.np) (w : WC tab F.body (mkEnv 0 us) h (endQ F.rs P)) : Cll tab f us h P := by
  obtain ⟨x, e2, h2, r, k⟩ := w
  cases x with
  | norm => obtain ⟨vs, e, p⟩ := k; exact ⟨_, h2, .codeN ht hl r e, p⟩
  | exit id => exact k.elim
  | ret => obtain ⟨vs, e, p⟩ := k; exact ⟨_, h2, .codeR ht hl r e, p⟩
theorem WC.skip (k : Q .norm e h) : WC tab .skip e h Q := ⟨_, _, _, .skip, k⟩
theorem WC.ret (k : Q .ret e h) : WC tab .ret e h Q := ⟨_, _, _, .ret, k⟩
theorem WC.exit {id : Nat} (k : Q (.exit id) e h) : WC tab (.exit id) e h Q := ⟨_, _, _, .exit, k⟩
theorem WC.seq {a b : IC} (k : WC tab a e h (thenQ tab b Q)) : WC tab (.seq a b) e h Q := by
  obtain ⟨x, e2, h2, r, k⟩ := k
  cases x with
  | norm => obtain ⟨y, e3, h3, r2, k2⟩ := k; exact ⟨_, _, _, .seq r r2, k2⟩
  | exit id => exact ⟨_, _, _, .seqE r, k⟩
  | ret => exact ⟨_, _, _, .seqR r, k⟩
theorem WC.condT {c : Operand} {a b : IC} (hc : ev e c = some (.bool true)) (k : WC tab a e h Q) : WC tab (.cond c a b) e h Q := by
  obtain ⟨x, e2, h2, r, k⟩ := k; exact ⟨x, e2, h2, .condT hc r, k⟩
theorem WC.condF {c : Operand} {a b : IC} (hc : ev e c = some (.bool false)) (k : WC tab b e h Q) : WC tab (.cond c a b) e h Q := by
  obtain ⟨x, e2, h2, r, k⟩ := k; exact ⟨x, e2, h2, .condF hc r, k⟩
theorem WC.block {id : Nat} {b : IC} (k : WC tab b e h (blockQ id Q)) : WC tab (.block id b) e h Q := by
  obtain ⟨x, e2, h2, r, k⟩ := k
  cases x with
  | norm => exact ⟨_, _, _, .blockN r, k⟩
  | ret => exact ⟨_, _, _, .blockR r, k⟩
  | exit j =>
    simp only [blockQ] at k
    split at k
    · rename_i q; subst q; exact ⟨_, _, _, .blockE r, k⟩
    · rename_i q; exact ⟨_, _, _, .blockO q r, k⟩
def loopQ {σ : Type} (keep : List Nat) (E : σ → Env) (I : σ → H → Prop) (μ : σ → Nat) (s : σ) (Q : Ex → Env → H → Prop) : Ex → Env → H → Prop
  | .norm, e, h => ∃ s', norm keep e = E s' ∧ I s' h ∧ μ s' < μ s
  | x, e, h => Q x e h
theorem WC.loop {σ : Type} {keep : List Nat} {b : IC} (E : σ → Env) (I : σ → H → Prop) (μ : σ → Nat) (s0 : σ) (hn : norm keep e = E s0) (hi : I s0 h)
    (step : ∀ s h, I s h → WC tab b (E s) h (loopQ keep E I μ s Q)) : WC tab (.loop keep b) e h Q := by
  generalize hm : μ s0 = m
  induction m using Nat.strongRecOn generalizing s0 e h with
  | _ m ih =>
    obtain ⟨x, e2, h2, r, k⟩ := step s0 h hi
    cases x with
    | norm =>
      obtain ⟨s', k1, k2, k3⟩ := k
      obtain ⟨y, e3, h3, r2, p⟩ := ih (μ s') (by omega) s' k1 k2 rfl
      exact ⟨y, e3, h3, .loop hn r r2, p⟩
    | exit id => exact ⟨_, _, _, .loopE hn r, k⟩
    | ret => exact ⟨_, _, _, .loopR hn r, k⟩
theorem WC.run {ss : List Step} {keep : List Nat} (k : WS tab 0 ss e h (fun e1 h1 => Q .norm (norm keep e1) h1)) : WC tab (.run ss keep) e h Q := by
  obtain ⟨e2, h2, r, k⟩ := k; exact ⟨_, _, _, .run _ r rfl, k⟩
theorem WC.draw {m : Nat} {ss : List Step} {keep : List Nat} (M : Mem base h L []) (ks : List Nat) (hk : (decide (ks.Nodup) && ks.all (fun k => decide (k < m))) = true)
    (k : ∀ rb h1, Mem base h1 L (ks.map (rb + ·)) → WS tab rb ss e h1 (fun e1 h1 => Q .norm (norm keep e1) h1)) : WC tab (.draw m ss keep) e h Q := by
  obtain ⟨e2, h2, r, k⟩ := k h.next (h.up m) (M.up hk); exact ⟨_, _, _, .draw _ r rfl, k⟩
variable {rb : Nat} {ss : List Step} {d : Option Nat} {g : Option (Nat × Bool)}
theorem WS.nil {keep : List Nat} (e2 : Env) (hn : norm keep e = e2) (k : Q .norm e2 h) : WS tab rb [] e h (fun e1 h1 => Q .norm (norm keep e1) h1) := ⟨_, _, .nil, by show Q .norm (norm keep e) h; rw [hn]; exact k⟩
theorem WS.op {i : IOp} {v : Value} (hg : gd e g = some true) (ho : opE i e h none = some (v, h1)) (k : WS tab rb ss (put e d v) h1 q) : WS tab rb (.op d g i :: ss) e h q := by
  obtain ⟨e2, h2, r, p⟩ := k; exact ⟨e2, h2, .op hg ho r, p⟩
theorem WS.opV {i : IOp} {v : Value} (v' : Value) (hg : gd e g = some true) (ho : opE i e h none = some (v, h1)) (hv : v = v') (k : WS tab rb ss (put e d v') h1 q) : WS tab rb (.op d g i :: ss) e h q := by
  subst hv; exact .op hg ho k
theorem WS.off {i : IOp} (hg : gd e g = some false) (k : WS tab rb ss (put e d undef) h q) : WS tab rb (.op d g i :: ss) e h q := by
  obtain ⟨e2, h2, r, p⟩ := k; exact ⟨e2, h2, .off hg r, p⟩
theorem WS.offC {c : CK} {xs : List Operand} (hg : gd e g = some false) (k : WS tab rb ss (put e d undef) h q) : WS tab rb (.call d g c xs :: ss) e h q := by
  obtain ⟨e2, h2, r, p⟩ := k; exact ⟨e2, h2, .offC hg r, p⟩
theorem WS.chk {i : IOp} {n : Nat} {v : Value} (hg : gd e g = some true) (ho : opE i e h none = some (v, h1)) (hl : look e n = some v) (hp : sameV v v = true) (k : WS tab rb ss e h q) : WS tab rb (.chk n g i :: ss) e h q := by
  obtain ⟨e2, h2, r, p⟩ := k; exact ⟨e2, h2, .chk hg ho hl hp r, p⟩
theorem WS.opR {i : IOp} {v : Value} {n : Nat} (hg : gd e g = some true) (ha : addrOf i e = some (rb + n)) (ho : opE i e h none = some (v, h1)) (k : WS tab rb ss (put e d v) h q) : WS tab rb (.opR d g i n :: ss) e h q := by
  obtain ⟨e2, h2, r, p⟩ := k; exact ⟨e2, h2, .opR hg ha ho r, p⟩
theorem WS.call {c : CK} {xs : List Operand} {vs us : List Value} {f : Nat} {P : Value → H → Prop} (hg : gd e g = some true) (hx : evs e xs = some vs) (hw : whom c e vs = some (f, us)) (hc : Cll tab f us h P) (k : ∀ v h2, P v h2 → WS tab rb ss (put e d v) h2 q) : WS tab rb (.call d g c xs :: ss) e h q := by
  obtain ⟨v, h2, r, p⟩ := hc
  obtain ⟨e3, h3, r2, p2⟩ := k v h2 p
  exact ⟨e3, h3, .call hg hx hw r r2, p2⟩
theorem WS.box {x : Operand} {v : Value} (M : Mem base h L R) (cs : List Value) (hg : gd e g = some true) (hx : ev e x = some v) (hc : v.cells.toList = cs) (ho : cs.all (·.oneCell') = true)
    (k : ∀ p h1, Mem base h1 ([(p, ⟨cs, 0, false⟩)] :: L) R → WS tab rb ss (put e d (.pointer (some ⟨p, 0, none⟩))) h1 q) : WS tab rb (.op d g (.box x) :: ss) e h q :=
  .op hg (op_box h.next hx hc ho rfl) (k _ _ (M.alloc _))
theorem WS.new {z : List Value} (M : Mem base h L R) (hg : gd e g = some true)
    (k : ∀ p h1, Mem base h1 ([(p, ⟨z, 0, false⟩)] :: L) R → WS tab rb ss (put e d (.pointer (some ⟨p, 0, none⟩))) h1 q) : WS tab rb (.op d g (.new z) :: ss) e h q :=
  .op hg (op_new h.next rfl) (k _ _ (M.alloc _))
theorem WS.bsl {es len : Nat} {z : List Value} {ps : List (Nat × Nat × Operand)} {l : List (Nat × Nat × Value)} (M : Mem base h L R) (cs : List Value) (hg : gd e g = some true) (hp : evp e ps = some l) (hf : fillL z l = some cs) (ho : cs.all (·.oneCell') = true)
    (k : ∀ p h1, Mem base h1 ([(p, ⟨cs, es, false⟩)] :: L) R → WS tab rb ss (put e d (.slice (some ⟨p, 0, none⟩) len (2 * len + 1))) h1 q) : WS tab rb (.op d g (.bsl es len z ps) :: ss) e h q :=
  .op hg (op_bsl h.next hp hf ho rfl) (k _ _ (M.alloc _))
theorem WS.bslA {n es len : Nat} {z : List Value} {ps : List (Nat × Nat × Operand)} {l : List (Nat × Nat × Value)} (M : Mem base h L R) (cs : List Value) (j : Nat) (hj : R[j]? = some (rb + n)) (hg : gd e g = some true) (hp : evp e ps = some l) (hf : fillL z l = some cs) (ho : cs.all (·.oneCell') = true)
    (k : ∀ h1, Mem base h1 ([(rb + n, ⟨cs, es, false⟩)] :: L) (R.eraseIdx j) → WS tab rb ss (put e d (.slice (some ⟨rb + n, 0, none⟩) len (2 * len + 1))) h1 q) : WS tab rb (.opA d g (.bsl es len z ps) n :: ss) e h q := by
  obtain ⟨e2, h2, r, p⟩ := k _ (M.setR j hj ⟨cs, es, false⟩)
  exact ⟨e2, h2, .opA hg (op_bslA (rb + n) hp hf ho rfl) r, p⟩
theorem op_ld {x : Operand} {p off : Nat} {B : Blk} {v : Value} (hb : h.get p = some B) (hx : ev e x = some (.pointer (some ⟨p, off, none⟩))) (hc : B.cells[off]? = some v) : opE (.ld1 x) e h none = some (v, h) := op_ld1 hx (ld_at hb hc)
theorem op_lds {x : Operand} {p off n : Nat} {B : Blk} (cs : List Value) (hb : h.get p = some B) (hx : ev e x = some (.pointer (some ⟨p, off, none⟩))) (hle : off + n ≤ B.cells.length) (hc : (B.cells.drop off).take n = cs) : opE (.ldN n x) e h none = some (.agg cs.toArray, h) := by
  rw [← hc]; exact op_ldN hx (lds_at hb hle)
theorem WS.st {S1 S2 : Seg} {p off n : Nat} {B : Blk} {x y : Operand} {v : Value} (M : Mem base h ((S1 ++ (p, B) :: S2) :: L) R) (vs cs : List Value) (hg : gd e g = some true) (hx : ev e x = some (.pointer (some ⟨p, off, none⟩))) (hy : ev e y = some v) (hv : v.cells.toList = vs) (hn : vs.length = n) (hp : 0 < n) (hr : B.ro = false)
    (hle : off + n ≤ B.cells.length) (ho : vs.all (·.oneCell') = true) (hc : splice B.cells off vs = cs)
    (k : ∀ h1, Mem base h1 ((S1 ++ (p, ⟨cs, B.es, false⟩) :: S2) :: L) R → WS tab rb ss (put e d undef) h1 q) : WS tab rb (.op d g (.st n x y) :: ss) e h q := by
  have hb : h.get p = some B := (M.own (p, B) (by simp)).1
  subst hn
  refine .op hg (op_st hx hy (by rw [hv]) (h2 := h.set p (some ⟨cs, B.es, false⟩)) ?_) (k _ (M.set _))
  rw [hv, ← hc]
  match vs, hp, hle, ho with
  | v :: vs, _, hle, ho => exact sts_at hb hr hle ho
theorem op_ldH {x : Operand} {a : Addr} {v : Value} (hx : ev e x = some (.pointer (some a))) (hl : h.ld a = some v) : opE (.ld1 x) e h none = some (v, h) := op_ld1 hx hl
variable {k : IntKind} {a b : Int} {x y : Operand}
theorem op_bin2 {op : BinOp} {v w z : Value} (hx : ev e x = some v) (hy : ev e y = some w) (hv : binV op v w = some z) : opE (.bin op x y) e h none = some (z, h) := op_bin hx hy hv
theorem vb_t {p : Prop} [Decidable p] (hp : p) : Value.bool (decide p) = Value.bool true := by rw [decide_eq_true hp]
theorem vb_f {p : Prop} [Decidable p] (hp : ¬ p) : Value.bool (decide p) = Value.bool false := by rw [decide_eq_false hp]
theorem WS.lss (hg : gd e g = some true) (hx : ev e x = some (.int k a)) (hy : ev e y = some (.int k b)) (kt : a < b → WS tab rb ss (put e d (.bool true)) h q) (kf : b ≤ a → WS tab rb ss (put e d (.bool false)) h q) : WS tab rb (.op d g (.bin .lss x y) :: ss) e h q := by
  by_cases c : a < b
  · exact .opV _ hg (op_bin2 (z := .bool (decide (a < b))) hx hy (by simp [binV])) (vb_t c) (kt c)
  · exact .opV _ hg (op_bin2 (z := .bool (decide (a < b))) hx hy (by simp [binV])) (vb_f c) (kf (by omega))
theorem WS.leq (hg : gd e g = some true) (hx : ev e x = some (.int k a)) (hy : ev e y = some (.int k b)) (kt : a ≤ b → WS tab rb ss (put e d (.bool true)) h q) (kf : b < a → WS tab rb ss (put e d (.bool false)) h q) : WS tab rb (.op d g (.bin .leq x y) :: ss) e h q := by
  by_cases c : a ≤ b
  · exact .opV _ hg (op_bin2 (z := .bool (decide (a ≤ b))) hx hy (by simp [binV])) (vb_t c) (kt c)
  · exact .opV _ hg (op_bin2 (z := .bool (decide (a ≤ b))) hx hy (by simp [binV])) (vb_f c) (kf (by omega))
theorem WS.gtr (hg : gd e g = some true) (hx : ev e x = some (.int k a)) (hy : ev e y = some (.int k b)) (kt : b < a → WS tab rb ss (put e d (.bool true)) h q) (kf : a ≤ b → WS tab rb ss (put e d (.bool false)) h q) : WS tab rb (.op d g (.bin .gtr x y) :: ss) e h q := by
  by_cases c : a > b
  · exact .opV _ hg (op_bin2 (z := .bool (decide (a > b))) hx hy (by simp [binV])) (vb_t c) (kt c)
  · exact .opV _ hg (op_bin2 (z := .bool (decide (a > b))) hx hy (by simp [binV])) (vb_f c) (kf (by omega))
theorem WS.geq (hg : gd e g = some true) (hx : ev e x = some (.int k a)) (hy : ev e y = some (.int k b)) (kt : b ≤ a → WS tab rb ss (put e d (.bool true)) h q) (kf : a < b → WS tab rb ss (put e d (.bool false)) h q) : WS tab rb (.op d g (.bin .geq x y) :: ss) e h q := by
  by_cases c : a ≥ b
  · exact .opV _ hg (op_bin2 (z := .bool (decide (a ≥ b))) hx hy (by simp [binV])) (vb_t c) (kt c)
  · exact .opV _ hg (op_bin2 (z := .bool (decide (a ≥ b))) hx hy (by simp [binV])) (vb_f c) (kf (by omega))
theorem WS.eql (hg : gd e g = some true) (hx : ev e x = some (.int k a)) (hy : ev e y = some (.int k b)) (kt : a = b → WS tab rb ss (put e d (.bool true)) h q) (kf : a ≠ b → WS tab rb ss (put e d (.bool false)) h q) : WS tab rb (.op d g (.bin .eql x y) :: ss) e h q := by
  by_cases c : a = b
  · exact .opV _ hg (op_bin2 (z := .bool (a == b)) hx hy (by simp [binV])) (by simp [c]) (kt c)
  · exact .opV _ hg (op_bin2 (z := .bool (a == b)) hx hy (by simp [binV])) (by simp [c]) (kf c)
theorem WS.neq (hg : gd e g = some true) (hx : ev e x = some (.int k a)) (hy : ev e y = some (.int k b)) (kt : a ≠ b → WS tab rb ss (put e d (.bool true)) h q) (kf : a = b → WS tab rb ss (put e d (.bool false)) h q) : WS tab rb (.op d g (.bin .neq x y) :: ss) e h q := by
  by_cases c : a = b
  · exact .opV _ hg (op_bin2 (z := .bool (a != b)) hx hy (by simp [binV])) (by simp [c]) (kf c)
  · exact .opV _ hg (op_bin2 (z := .bool (a != b)) hx hy (by simp [binV])) (by simp [c]) (kt c)
def bs (l : List UInt8) : ByteArray := ⟨l.toArray⟩
theorem bs_of (s : ByteArray) : ∃ l, s = bs l := ⟨s.data.toList, by cases s; simp [bs]⟩
theorem bs_size (l : List UInt8) : (bs l).size = l.length := by simp [bs, ByteArray.size]
theorem bs_append (l m : List UInt8) : bs l ++ bs m = bs (l ++ m) := by
  apply ByteArray.ext; simp [bs]
theorem bs_toList_loop (l : List UInt8) : ∀ (k i : Nat) (acc : List UInt8), i + k = l.length → ByteArray.toList.loop (bs l) i acc = acc.reverse ++ l.drop i := by
  intro k
  induction k with
  | zero =>
    intro i acc hi
    unfold ByteArray.toList.loop
    rw [bs_size, if_neg (by omega), List.drop_of_length_le (by omega), List.append_nil]
  | succ k ih =>
    intro i acc hi
    unfold ByteArray.toList.loop
    rw [bs_size, if_pos (by omega), ih (i + 1) _ (by omega), List.reverse_cons, List.append_assoc]
    congr 1
    have hget : (bs l).get! i = l[i] := by
      show (l.toArray)[i]! = l[i]
      simp [getElem!_pos, show i < l.length by omega]
    rw [hget, List.drop_eq_getElem_cons (show i < l.length by omega)]; rfl
theorem bs_toList (l : List UInt8) : (bs l).toList = l := by
  show ByteArray.toList.loop (bs l) 0 [] = l
  rw [bs_toList_loop l l.length 0 [] (by omega)]; simp
theorem bs_extract (l : List UInt8) (i j : Nat) : (bs l).extract i j = bs ((l.take j).drop i) := by
  apply ByteArray.ext; simp [bs, List.drop_take]
theorem bs_get (l : List UInt8) (i : Nat) : (bs l)[i]? = l[i]? := by
  by_cases h : i < l.length
  · rw [List.getElem?_eq_getElem h, getElem?_pos (bs l) i (by rw [bs_size]; exact h)]; simp [bs]; rfl
  · rw [List.getElem?_eq_none (by omega), getElem?_neg (bs l) i (by rw [bs_size]; exact h)]
theorem bs_data (l : List UInt8) : ((bs l).data.map fun b => Value.int .u8 b.toNat).toList = l.map fun b => Value.int .u8 (b.toNat : Int) := by simp [bs]
theorem WS.seql {l m : List UInt8} (hg : gd e g = some true) (hx : ev e x = some (.string (bs l))) (hy : ev e y = some (.string (bs m))) (kt : l = m → WS tab rb ss (put e d (.bool true)) h q) (kf : l ≠ m → WS tab rb ss (put e d (.bool false)) h q) : WS tab rb (.op d g (.bin .eql x y) :: ss) e h q := by
  have hv : binV .eql (.string (bs l)) (.string (bs m)) = some (.bool (l == m)) := by simp only [binV, bs_toList]
  by_cases c : l = m
  · exact .opV _ hg (op_bin2 hx hy hv) (by simp [c]) (kt c)
  · exact .opV _ hg (op_bin2 hx hy hv) (by simp [c]) (kf c)
theorem WS.sneq {l m : List UInt8} (hg : gd e g = some true) (hx : ev e x = some (.string (bs l))) (hy : ev e y = some (.string (bs m))) (kt : l ≠ m → WS tab rb ss (put e d (.bool true)) h q) (kf : l = m → WS tab rb ss (put e d (.bool false)) h q) : WS tab rb (.op d g (.bin .neq x y) :: ss) e h q := by
  have hv : binV .neq (.string (bs l)) (.string (bs m)) = some (.bool !(l == m)) := by simp only [binV, bs_toList]
  by_cases c : l = m
  · exact .opV _ hg (op_bin2 hx hy hv) (by simp [c]) (kf c)
  · exact .opV _ hg (op_bin2 hx hy hv) (by simp [c]) (kt c)
theorem op_sadd {l m : List UInt8} (hx : ev e x = some (.string (bs l))) (hy : ev e y = some (.string (bs m))) (hn : l.length + m.length ≤ 1099511627776) : opE (.bin .add x y) e h none = some (.string (bs (l ++ m)), h) := by
  refine op_bin2 hx hy ?_
  simp only [binV, bs_size]; rw [if_pos hn, bs_append]
theorem op_lenS {l : List UInt8} (hx : ev e x = some (.string (bs l))) : opE (.lenS x) e h none = some (.int .i64 (l.length : Int), h) := by simp only [opE, hx, bs_size]
theorem op_ixS {l : List UInt8} {c : UInt8} (i : Nat) (hx : ev e x = some (.string (bs l))) (hy : ev e y = some (.int k (i : Int))) (hc : l[i]? = some c) : opE (.ixS x y) e h none = some (.int .u8 (c.toNat : Int), h) := by
  simp only [opE, hx, hy]; rw [if_pos (by omega), Int.toNat_natCast, bs_get, hc]
theorem op_slS {l : List UInt8} {lo hi : Option Operand} (a b : Option Nat) (hx : ev e x = some (.string (bs l))) (ha : bnd e lo = some a) (hb : bnd e hi = some b) (h1 : a.getD 0 ≤ b.getD l.length) (h2 : b.getD l.length ≤ l.length) : opE (.slS x lo hi) e h none = some (.string (bs ((l.take (b.getD l.length)).drop (a.getD 0))), h) := by
  simp only [opE, hx, ha, hb, bs_size]; rw [if_pos ⟨h1, h2⟩, bs_extract]
theorem bnd_nat {i : Nat} (hx : ev e x = some (.int k (i : Int))) : bnd e (some x) = some (some i) := by
  simp only [bnd, hx]; rw [if_pos (by omega)]; simp
theorem op_slS0 {l : List UInt8} (i : Nat) (hx : ev e x = some (.string (bs l))) (hy : ev e y = some (.int k (i : Int))) (hi : i ≤ l.length) : opE (.slS x (some y) none) e h none = some (.string (bs (l.drop i)), h) := by
  have := op_slS (h := h) (hi := none) (some i) none hx (bnd_nat hy) rfl (by simpa using hi) (by simp)
  simpa using this
theorem op_slS2 {l : List UInt8} {z : Operand} {k2 : IntKind} (i j : Nat) (hx : ev e x = some (.string (bs l))) (hy : ev e y = some (.int k (i : Int))) (hz : ev e z = some (.int k2 (j : Int))) (hi : i ≤ j) (hj : j ≤ l.length) : opE (.slS x (some y) (some z)) e h none = some (.string (bs ((l.take j).drop i)), h) := by
  have := op_slS (h := h) (some i) (some j) hx (bnd_nat hy) (bnd_nat hz) (by simpa using hi) (by simpa using hj)
  simpa using this
theorem bytesL_bs : ∀ (l : List UInt8) (s : ByteArray), bytesL (l.map fun b => Value.int .u8 (b.toNat : Int)) s = some (s ++ bs l) := by
  intro l
  induction l with
  | nil => intro s; simp [bytesL, bs]; apply ByteArray.ext; simp
  | cons b l ih =>
    intro s
    simp only [List.map_cons, bytesL]
    rw [ih]
    congr 1
    apply ByteArray.ext
    simp [bs, ByteArray.data_push]
theorem op_cvB {p off n c : Nat} {B : Blk} {l : List UInt8} (hb : h.get p = some B) (hx : ev e x = some (.slice (some ⟨p, off, none⟩) n c)) (hn : l.length = n) (hle : off + n ≤ B.cells.length) (hc : (B.cells.drop off).take n = l.map fun b => Value.int .u8 (b.toNat : Int)) : opE (.cvB x) e h none = some (.string (bs l), h) := by
  simp only [opE, hx]; rw [lds_at hb hle, hc]; simp only [bytesL_bs]
  have : ByteArray.empty ++ bs l = bs l := by apply ByteArray.ext; simp
  simp only [this]
theorem op_iaV2 {p n c es : Nat} {o : Nat} (j : Nat) (hx : ev e x = some (.slice (some ⟨p, o, none⟩) n c)) (hi : ev e y = some (.int k (j : Int))) (hj : j < n) : opE (.iaV es x y) e h none = some (.pointer (some ⟨p, o + j * es, none⟩), h) := op_iaV j hx hi hj
end Go.Proofs.Yteikngjiaboeaaa.Am
namespace Go.Proofs.Yteikngjiaboeaaa.Am
open Go
set_option linter.unusedVariables false
set_option linter.unusedSimpArgs false
variable {base h h1 h2 h3 : H} {L L' : List Seg} {R : List Nat} {S : Seg}
variable {tab : Nat → Option FD} {Q : Ex → Env → H → Prop} {q : Env → H → Prop} {e e2 : Env}
variable {rb : Nat} {ss : List Step} {d : Option Nat} {g : Option (Nat × Bool)}
theorem Mem.name (M : Mem base h L R) : ∃ L', L' = L ∧ Mem base h L' R := ⟨L, rfl, M⟩
theorem Mem.name1 (M : Mem base h (S :: L) R) : ∃ L', L' = L ∧ Mem base h (S :: L') R := ⟨L, rfl, M⟩
theorem Mem.name2 {S2 : Seg} (M : Mem base h (S :: S2 :: L) R) : ∃ L', L' = L ∧ Mem base h (S :: S2 :: L') R := ⟨L, rfl, M⟩
theorem Mem.name3 {S2 S3 : Seg} (M : Mem base h (S :: S2 :: S3 :: L) R) : ∃ L', L' = L ∧ Mem base h (S :: S2 :: S3 :: L') R := ⟨L, rfl, M⟩
theorem Mem.take (M : Mem base h L R) (k : Nat) : Mem base h (L.take k) R := by
  have hs : (L.take k).flatten.Sublist L.flatten := by
    conv => rhs; rw [← List.take_append_drop k L, List.flatten_append]
    exact List.sublist_append_left ..
  exact ⟨M.wf, M.nx, M.sub, M.no, fun p hp => M.own p (hs.subset hp), M.nd.sublist (hs.map _), M.res, M.rnd⟩
theorem WC.env {ic : IC} (e2 : Env) (he : e = e2) (k : WC tab ic e2 h Q) : WC tab ic e h Q := by rw [he]; exact k
theorem res_nil : resE [] e h = some [] := rfl
theorem res_tmp {t : Nat} {rs : List RV} {v : Value} {vs : List Value} (hl : look e t = some v) (k : resE rs e h = some vs) : resE (.tmp t :: rs) e h = some (v :: vs) := by simp only [resE, hl, k]
theorem res_cellN {t p off n : Nat} {rs : List RV} {B : Blk} {vs : List Value} (cs : List Value) (hl : look e t = some (.pointer (some ⟨p, off, none⟩))) (hb : h.get p = some B) (hle : off + n ≤ B.cells.length) (hc : (B.cells.drop off).take n = cs) (k : resE rs e h = some vs) : resE (.cell t (some n) :: rs) e h = some (.agg cs.toArray :: vs) := by
  simp only [resE, hl, lds_at hb hle, hc, k]
theorem WS.st1 {p off n es : Nat} {cells : List Value} {x y : Operand} {v : Value} (M : Mem base h ([(p, ⟨cells, es, false⟩)] :: L) R) (vs cs : List Value) (hg : gd e g = some true) (hx : ev e x = some (.pointer (some ⟨p, off, none⟩))) (hy : ev e y = some v) (hv : v.cells.toList = vs) (hn : vs.length = n) (hp : 0 < n)
    (hle : off + n ≤ cells.length) (ho : vs.all (·.oneCell') = true) (hc : splice cells off vs = cs)
    (k : ∀ h1, Mem base h1 ([(p, ⟨cs, es, false⟩)] :: L) R → WS tab rb ss (put e d undef) h1 q) : WS tab rb (.op d g (.st n x y) :: ss) e h q :=
  WS.st (S1 := []) (S2 := []) M vs cs hg hx hy hv hn hp rfl hle ho hc k
theorem WS.nil' (k : q e h) : WS tab rb [] e h q := ⟨_, _, .nil, k⟩
theorem WC.joinB {ss : List Step} {keep : List Nat} (E : Bool → Env) (L : List Seg) (Pt Pf : Prop) (w : WS tab 0 ss e h (fun e1 h1 => ∃ b, norm keep e1 = E b ∧ Mem base h1 L [] ∧ (b = true → Pt) ∧ (b = false → Pf)))
    (kt : ∀ h1, Mem base h1 L [] → Pt → Q .norm (E true) h1) (kf : ∀ h1, Mem base h1 L [] → Pf → Q .norm (E false) h1) : WC tab (.run ss keep) e h Q := by
  refine .run ?_
  obtain ⟨e2, h2, r, b, k1, k2, k3, k4⟩ := w
  refine ⟨e2, h2, r, ?_⟩
  show Q .norm (norm keep e2) h2
  rw [k1]
  cases b with
  | true => exact kt _ k2 (k3 rfl)
  | false => exact kf _ k2 (k4 rfl)
theorem WS.lssN {x y : Operand} {k : IntKind} {a b : Nat} (hg : gd e g = some true) (hx : ev e x = some (.int k (a : Int))) (hy : ev e y = some (.int k (b : Int))) (kt : a < b → WS tab rb ss (put e d (.bool true)) h q) (kf : b ≤ a → WS tab rb ss (put e d (.bool false)) h q) : WS tab rb (.op d g (.bin .lss x y) :: ss) e h q :=
  .lss hg hx hy (fun c => kt (by omega)) (fun c => kf (by omega))
theorem WS.leqN {x y : Operand} {k : IntKind} {a b : Nat} (hg : gd e g = some true) (hx : ev e x = some (.int k (a : Int))) (hy : ev e y = some (.int k (b : Int))) (kt : a ≤ b → WS tab rb ss (put e d (.bool true)) h q) (kf : b < a → WS tab rb ss (put e d (.bool false)) h q) : WS tab rb (.op d g (.bin .leq x y) :: ss) e h q :=
  .leq hg hx hy (fun c => kt (by omega)) (fun c => kf (by omega))
theorem WS.gtrN {x y : Operand} {k : IntKind} {a b : Nat} (hg : gd e g = some true) (hx : ev e x = some (.int k (a : Int))) (hy : ev e y = some (.int k (b : Int))) (kt : b < a → WS tab rb ss (put e d (.bool true)) h q) (kf : a ≤ b → WS tab rb ss (put e d (.bool false)) h q) : WS tab rb (.op d g (.bin .gtr x y) :: ss) e h q :=
  .gtr hg hx hy (fun c => kt (by omega)) (fun c => kf (by omega))
theorem WS.geqN {x y : Operand} {k : IntKind} {a b : Nat} (hg : gd e g = some true) (hx : ev e x = some (.int k (a : Int))) (hy : ev e y = some (.int k (b : Int))) (kt : b ≤ a → WS tab rb ss (put e d (.bool true)) h q) (kf : a < b → WS tab rb ss (put e d (.bool false)) h q) : WS tab rb (.op d g (.bin .geq x y) :: ss) e h q :=
  .geq hg hx hy (fun c => kt (by omega)) (fun c => kf (by omega))
theorem WS.eqlN {x y : Operand} {k : IntKind} {a b : Nat} (hg : gd e g = some true) (hx : ev e x = some (.int k (a : Int))) (hy : ev e y = some (.int k (b : Int))) (kt : a = b → WS tab rb ss (put e d (.bool true)) h q) (kf : a ≠ b → WS tab rb ss (put e d (.bool false)) h q) : WS tab rb (.op d g (.bin .eql x y) :: ss) e h q :=
  .eql hg hx hy (fun c => kt (by omega)) (fun c => kf (by omega))
theorem WS.neqN {x y : Operand} {k : IntKind} {a b : Nat} (hg : gd e g = some true) (hx : ev e x = some (.int k (a : Int))) (hy : ev e y = some (.int k (b : Int))) (kt : a ≠ b → WS tab rb ss (put e d (.bool true)) h q) (kf : a = b → WS tab rb ss (put e d (.bool false)) h q) : WS tab rb (.op d g (.bin .neq x y) :: ss) e h q :=
  .neq hg hx hy (fun c => kt (by omega)) (fun c => kf (by omega))
theorem WC.unroll {keep : List Nat} {b : IC} (e2 : Env) (hn : norm keep e = e2) (k : WC tab b e2 h (thenQ tab (.loop keep b) Q)) : WC tab (.loop keep b) e h Q := by
  obtain ⟨x, e3, h3, r, k⟩ := k
  cases x with
  | norm => obtain ⟨y, e4, h4, r2, k2⟩ := k; exact ⟨_, _, _, .loop hn r r2, k2⟩
  | exit id => exact ⟨_, _, _, .loopE hn r, k⟩
  | ret => exact ⟨_, _, _, .loopR hn r, k⟩
theorem vbt {p : Prop} [Decidable p] (h : p) : packE [.bool true] = .bool (decide p) := by rw [decide_eq_true h]; rfl
theorem vbf {p : Prop} [Decidable p] (h : ¬ p) : packE [.bool false] = .bool (decide p) := by rw [decide_eq_false h]; rfl
theorem wu64 (n : Int) : IntKind.u64.wrap n = n % 18446744073709551616 := by simp [IntKind.wrap, IntKind.bits, IntKind.signed]
theorem cv_u64 {n : Nat} (h : n < 18446744073709551616) : Value.int .u64 (IntKind.u64.wrap (n : Int)) = .int .u64 (n : Int) := by
  congr 1; rw [wu64]; omega
theorem cv_i64 {n : Nat} (h : n < 9223372036854775808) : Value.int .i64 (IntKind.i64.wrap (n : Int)) = .int .i64 (n : Int) := by
  congr 1; rw [IntKind.wrap_i64]; omega
theorem add_i64 {a b : Nat} (h : a + b < 9223372036854775808) : Value.int .i64 (IntKind.i64.wrap ((a : Int) + (b : Int))) = .int .i64 ((a + b : Nat) : Int) := by
  congr 1; rw [IntKind.wrap_i64]; omega
theorem sub_i64 {a b : Nat} (h : b ≤ a ∧ a < 9223372036854775808) : Value.int .i64 (IntKind.i64.wrap ((a : Int) - (b : Int))) = .int .i64 ((a - b : Nat) : Int) := by
  congr 1; rw [IntKind.wrap_i64]; omega
theorem op_slA0 {x y : Operand} {p o n es : Nat} {k : IntKind} (i : Nat) (hx : ev e x = some (.pointer (some ⟨p, o, none⟩))) (hy : ev e y = some (.int k (i : Int))) (hi : i ≤ n) : opE (.slA n es x (some y) none none) e h none = some (.slice (some ⟨p, o + i * es, none⟩) (n - i) (2 * (n - i) + 1), h) := by
  simp only [opE, hx, bnd_nat hy]
  show (if _ then _ else _) = _
  rw [if_pos]
  · rfl
  · simp; omega
theorem u8_ofNat {n : Nat} : Value.int .u8 (IntKind.u8.wrap (n : Int)) = .int .u8 ((UInt8.ofNat n).toNat : Int) := by
  congr 1
def At (h : H) (b o : Nat) (cs : List Value) : Prop := ∃ B, h.get b = some B ∧ o + cs.length ≤ B.cells.length ∧ (B.cells.drop o).take cs.length = cs
theorem At.mono {b o : Nat} {cs : List Value} (A : At h b o cs) (hs : ∀ n B, h.get n = some B → h2.get n = some B) : At h2 b o cs := by
  obtain ⟨B, e1, e2, e3⟩ := A; exact ⟨B, hs _ _ e1, e2, e3⟩
theorem At.ld {b o k : Nat} {cs : List Value} {v : Value} (A : At h b o cs) (hc : cs[k]? = some v) : h.ld ⟨b, o + k, none⟩ = some v := by
  obtain ⟨B, e1, e2, e3⟩ := A
  have hk := (List.getElem?_eq_some_iff.1 hc).1
  refine ld_at e1 ?_
  rw [← e3, List.getElem?_take, if_pos hk, List.getElem?_drop] at hc; exact hc
theorem At.ld0 {b o : Nat} {cs : List Value} {v : Value} (A : At h b o cs) (hc : cs[0]? = some v) : h.ld ⟨b, o, none⟩ = some v := A.ld (k := 0) hc
theorem At.lds {b o : Nat} {cs : List Value} (A : At h b o cs) : h.lds ⟨b, o, none⟩ cs.length = some cs := by
  obtain ⟨B, e1, e2, e3⟩ := A; rw [lds_at e1 e2, e3]
theorem op_ldAt {x : Operand} {b o n : Nat} {cs : List Value} (hx : ev e x = some (.pointer (some ⟨b, o, none⟩))) (A : At h b o cs) (hn : cs.length = n) : opE (.ldN n x) e h none = some (.agg cs.toArray, h) := by
  subst hn; exact op_ldN hx A.lds
theorem op_cvBs {x : Operand} {p c n : Nat} {es : Nat} {ro : Bool} {l : List UInt8} (hb : h.get p = some ⟨l.map fun b => Value.int .u8 (b.toNat : Int), es, ro⟩) (hx : ev e x = some (.slice (some ⟨p, 0, none⟩) n c)) (hn : l.length = n) : opE (.cvB x) e h none = some (.string (bs l), h) :=
  op_cvB hb hx hn (by simp; omega) (by subst hn; rw [List.drop_zero, List.take_of_length_le (by simp)])
theorem At.elem {α : Type} {K : Row α} {l : List α} {b o j : Nat} {y : α} (A : At h b o (K.flat l)) (hy : l[j]? = some y) : At h b (o + j * K.n) (K.cells y) := by
  obtain ⟨B, e1, e2, e3⟩ := A
  have hj := (List.getElem?_eq_some_iff.1 hy).1
  have := Nat.mul_le_mul_right K.n (show j + 1 ≤ l.length by omega)
  rw [Nat.add_mul, Nat.one_mul] at this
  rw [K.flat_length] at e2
  refine ⟨B, e1, by rw [K.len]; omega, ?_⟩
  rw [← K.flat_get l j y hy, ← e3, K.flat_length, List.drop_take, List.take_take, List.drop_drop]
  congr 1
  simp; omega
section
variable {α : Type} (K : Row α)
inductive Row.Sl (h : H) : Value → List α → Prop
  | nil : Row.Sl h (.slice none 0 0) []
  | emp (a : Addr) (c : Nat) : Row.Sl h (.slice (some a) 0 c) []
  | row (b o c : Nat) (l : List α) (ha : At h b o (K.flat l)) : Row.Sl h (.slice (some ⟨b, o, none⟩) l.length c) l
variable {K} {V : Value} {l : List α}
theorem Row.Sl.mono (A : K.Sl h V l) (hs : ∀ n B, h.get n = some B → h2.get n = some B) : K.Sl h2 V l := by
  cases A with
  | nil => exact .nil
  | emp a c => exact .emp a c
  | row b o c l ha => exact .row b o c l (ha.mono hs)
theorem Row.Sl.shape (A : K.Sl h V l) : ∃ P c, V = .slice P l.length c := by
  cases A <;> exact ⟨_, _, rfl⟩
theorem op_lenVS {x : Operand} {h0 : H} (A : K.Sl h0 V l) (hx : ev e x = some V) : opE (.lenV x) e h none = some (.int .i64 (l.length : Int), h) := by
  obtain ⟨P, c, rfl⟩ := A.shape
  simp only [opE, hx]
theorem WS.iaVS {x i : Operand} {k : IntKind} {h0 : H} {es : Nat} (A : K.Sl h0 V l) (j : Nat) {y : α} (hy : l[j]? = some y) (hg : gd e g = some true) (hx : ev e x = some V) (hi : ev e i = some (.int k (j : Int))) (hes : es = K.n)
    (w : ∀ b o, At h0 b o (K.cells y) → WS tab rb ss (put e d (.pointer (some ⟨b, o, none⟩))) h q) : WS tab rb (.op d g (.iaV es x i) :: ss) e h q := by
  subst hes
  have hj := (List.getElem?_eq_some_iff.1 hy).1
  cases A with
  | nil => simp at hj
  | emp a c => simp at hj
  | row b o c l ha => exact .op hg (op_iaV2 j hx hi hj) (w _ _ (ha.elem hy))
theorem Row.Sl.own {b c es : Nat} {ro : Bool} (hb : h.get b = some ⟨K.flat l, es, ro⟩) : K.Sl h (.slice (some ⟨b, 0, none⟩) l.length c) l :=
  .row b 0 c l ⟨_, hb, by simp, by simp⟩
variable (K)
inductive Row.Own : Value → List α → Seg → Prop
  | nil : Row.Own (.slice none 0 0) [] []
  | row (p : Nat) (l : List α) (hne : l ≠ []) : Row.Own (.slice (some ⟨p, 0, none⟩) l.length (2 * l.length)) l [(p, ⟨K.flat l, K.n, false⟩)]
structure Row.Src (h : H) (y : Value) (m : List α) : Prop where
  len : srcLen y = some m.length
  cells : srcCells h K.n m.length y = some (K.flat m)
variable {K} {m : List α} {y : Value}
theorem Row.Src.one {b c es : Nat} {ro : Bool} (hb : h.get b = some ⟨K.flat m, es, ro⟩) : K.Src h (.slice (some ⟨b, 0, none⟩) m.length c) m := by
  refine ⟨rfl, ?_⟩
  simp only [srcCells]
  rw [lds_at hb (by rw [K.flat_length]; simp), List.drop_zero, List.take_of_length_le (by rw [K.flat_length]; exact Nat.le_refl _)]
theorem Row.Src.sl (A : K.Sl h y m) : K.Src h y m := by
  cases A with
  | nil => exact ⟨rfl, by simp [srcCells, Row.flat]⟩
  | emp a c => exact ⟨rfl, by simp [srcCells, Row.flat, H.lds]⟩
  | row b o c l ha =>
    refine ⟨rfl, ?_⟩
    have := ha.lds
    rw [K.flat_length] at this
    exact this
theorem Row.Own.sl {S : Seg} (O : K.Own V l S) (M : ∀ p ∈ S, h.get p.1 = some p.2) : K.Sl h V l := by
  cases O with
  | nil => exact .nil
  | row p l hne => exact .own (M _ (List.mem_singleton.2 rfl))
theorem Mem.own0 (M : Mem base h (S :: L) R) : ∀ p ∈ S, h.get p.1 = some p.2 := fun p hp => (M.own p (by simp only [List.flatten_cons, List.mem_append]; exact .inl hp)).1
theorem Mem.owni (M : Mem base h L R) (i : Nat) (hi : L[i]? = some S) : ∀ p ∈ S, h.get p.1 = some p.2 := fun p hp => (M.own p (mem_flatten hi hp)).1
theorem WS.app {S : Seg} {x z : Operand} {bytes es : Nat} (O : K.Own V l S) (M : Mem base h (S :: L) R) (A : K.Src h y m) (hes : es = K.n) (hb : (l.length + m.length) * bytes ≤ 140737488355328) (hn : l.length + m.length ≤ 1099511627776) (hg : gd e g = some true) (hx : ev e x = some V) (hy : ev e z = some y)
    (k : ∀ V' S' h1, K.Own V' (l ++ m) S' → Mem base h1 (S' :: L) R → WS tab rb ss (put e d V') h1 q) : WS tab rb (.op d g (.app es bytes x z) :: ss) e h q := by
  subst hes
  obtain ⟨a1, a2⟩ := A
  have hall := plain1_one (K.flat_plain m)
  cases O with
  | nil =>
    by_cases c : m = []
    · subst c
      refine .op hg (op_app hx hy (r := (.slice none 0 0, h)) ?_) (k _ [] _ .nil M)
      simp only [appE, a1, a2]; rfl
    · have hm : m.length ≠ 0 := fun e => c (List.eq_nil_of_length_eq_zero e)
      refine .op hg (op_app hx hy (r := (.slice (some ⟨h.next, 0, none⟩) m.length (2 * m.length), h.alloc ⟨K.flat m, K.n, false⟩)) ?_) (k _ _ _ (by rw [List.nil_append]; exact .row h.next m c) (Mem.perm (M.alloc _) (by simp)))
      simp only [appE, a1, a2]
      simp only [List.length_nil, Nat.zero_add] at hb hn
      rw [if_neg hm, if_pos ⟨hb, hn, hall⟩]; rfl
  | row p l hne =>
    have hg2 : h.get p = some ⟨K.flat l, K.n, false⟩ := M.own0 _ (List.mem_singleton.2 rfl)
    by_cases c : m = []
    · subst c
      refine .op hg (op_app hx hy (r := (.slice (some ⟨p, 0, none⟩) l.length (2 * l.length), h)) ?_) (k _ _ _ (by rw [List.append_nil]; exact .row p l hne) M)
      simp only [List.length_nil] at a1 a2
      simp only [appE, a1, a2, Nat.add_zero]
      rw [if_pos (by omega)]; rfl
    · have hm : m.length ≠ 0 := fun e => c (List.eq_nil_of_length_eq_zero e)
      have M2 := (Mem.free (S1 := []) (S2 := []) M).alloc ⟨K.flat (l ++ m), K.n, false⟩
      refine .op hg (op_app hx hy (r := (.slice (some ⟨h.next, 0, none⟩) (l.length + m.length) (2 * (l.length + m.length)), (h.set p none).alloc ⟨K.flat (l ++ m), K.n, false⟩)) ?_) (k _ [(h.next, ⟨K.flat (l ++ m), K.n, false⟩)] _ ?_ (Mem.perm M2 (by simp [H.next_set])))
      · simp only [appE, a1, a2]
        rw [if_neg (by omega), if_pos ⟨hb, hn, hall⟩, lds_at hg2 (by rw [K.flat_length]; simp)]
        simp only
        rw [if_neg (by omega)]
        simp only [hg2]
        rw [if_pos ⟨trivial, trivial, trivial⟩, List.drop_zero, List.take_of_length_le (by rw [K.flat_length]; exact Nat.le_refl _), K.flat_append]
      · have := Row.Own.row (K := K) h.next (l ++ m) (by simp [hne])
        rw [List.length_append] at this; exact this
theorem Row.Own.shape {S : Seg} (O : K.Own V l S) : ∃ P, V = .slice P l.length (2 * l.length) := by cases O <;> exact ⟨_, rfl⟩
theorem op_lenVO {x : Operand} {S : Seg} (O : K.Own V l S) (hx : ev e x = some V) : opE (.lenV x) e h none = some (.int .i64 (l.length : Int), h) := by
  obtain ⟨P, rfl⟩ := O.shape
  simp only [opE, hx]
end
def KU8 : Row UInt8 := ⟨fun x => [.int .u8 ((x.toNat : Nat) : Int)], 1, fun _ => rfl, by decide, fun _ => rfl⟩
def KInt : Row Int := ⟨fun x => [.int .i64 x], 1, fun _ => rfl, by decide, fun _ => rfl⟩
def KStr : Row (List UInt8) := ⟨fun x => [.string (bs x)], 1, fun _ => rfl, by decide, fun _ => rfl⟩
theorem KU8_flat (l : List UInt8) : KU8.flat l = l.map fun b => Value.int .u8 ((b.toNat : Nat) : Int) := by
  induction l with
  | nil => rfl
  | cons b l ih => rw [KU8.flat_cons, ih]; rfl
theorem src_string (l : List UInt8) : KU8.Src h (.string (bs l)) l := by
  refine ⟨by simp only [srcLen, bs_size], ?_⟩
  simp only [srcCells]
  show (if (1 : Nat) = 1 then _ else _) = _
  rw [if_pos rfl, bs_extract, KU8_flat, List.take_of_length_le (Nat.le_refl _), List.drop_zero, bs_data]
theorem op_cvBO {x : Operand} {V : Value} {l : List UInt8} {S : Seg} (O : KU8.Own V l S) (M : ∀ p ∈ S, h.get p.1 = some p.2) (hx : ev e x = some V) : opE (.cvB x) e h none = some (.string (bs l), h) := by
  cases O with
  | nil => simp only [opE, hx]; rfl
  | row p l hne =>
    have hb := M _ (List.mem_singleton.2 rfl)
    simp only [KU8_flat] at hb
    exact op_cvBs hb hx rfl
theorem u64_ofNat {n : Nat} (h : n < 18446744073709551616) : Value.int .u64 (n : Int) = .int .u64 ((UInt64.ofNat n).toNat : Int) := by
  rw [UInt64.toNat_ofNat']; congr 2; omega
theorem take8 {l : List UInt8} (h : 8 ≤ l.length) : ∃ c0 c1 c2 c3 c4 c5 c6 c7, l.take 8 = [c0, c1, c2, c3, c4, c5, c6, c7] := by
  match l, h with
  | c0 :: c1 :: c2 :: c3 :: c4 :: c5 :: c6 :: c7 :: r, _ => exact ⟨c0, c1, c2, c3, c4, c5, c6, c7, rfl⟩
theorem WS.cpyS {p off n c : Nat} {es bes : Nat} {cells : List Value} {x y : Operand} {l : List UInt8} (M : Mem base h ([(p, ⟨cells, bes, false⟩)] :: L) R) (vs cs : List Value) (hg : gd e g = some true) (hx : ev e x = some (.slice (some ⟨p, off, none⟩) n c)) (hy : ev e y = some (.string (bs l))) (hes : es = 1) (hv : (l.take n).map (fun b => Value.int .u8 (b.toNat : Int)) = vs) (hn : vs.length = n) (hp : 0 < n)
    (hle : off + n ≤ cells.length) (ho : vs.all (·.oneCell') = true) (hc : splice cells off vs = cs)
    (k : ∀ h1, Mem base h1 ([(p, ⟨cs, bes, false⟩)] :: L) R → WS tab rb ss (put e d (.int .i64 (n : Int))) h1 q) : WS tab rb (.op d g (.cpy es x y) :: ss) e h q := by
  have hb : h.get p = some ⟨cells, bes, false⟩ := (M.own (p, ⟨cells, bes, false⟩) (by simp)).1
  have hln : n ≤ l.length := by
    have := congrArg List.length hv; rw [List.length_map, List.length_take, hn] at this; omega
  have hmin : Nat.min l.length n = n := Nat.min_eq_right hln
  refine .op hg (v := .int .i64 (n : Int)) (h1 := h.set p (some ⟨cs, bes, false⟩)) ?_ (k _ ((Mem.set (S1 := []) (S2 := []) M) _))
  have hsrc : srcCells h 1 n (.string (bs l)) = some vs := by
    simp only [srcCells]; rw [if_pos trivial, bs_extract, List.drop_zero, bs_data, hv]
  have hst : h.sts ⟨p, off, none⟩ vs = some (h.set p (some ⟨cs, bes, false⟩)) := by
    rw [← hc]; subst hn
    match vs, hp, hle, ho with
    | v :: vs, _, hle, ho => exact sts_at hb rfl hle ho
  subst hes
  simp only [opE, hx, hy, srcLen, bs_size, hmin, hsrc, hst]
theorem WS.eqqD {x y : Operand} {k : EqK} {v w : Value} {p : Prop} [Decidable p] (hg : gd e g = some true) (hx : ev e x = some v) (hy : ev e y = some w) (hc : eqV k v w = some (decide p)) (kt : p → WS tab rb ss (put e d (.bool true)) h q) (kf : ¬ p → WS tab rb ss (put e d (.bool false)) h q) : WS tab rb (.op d g (.eqq false k x y) :: ss) e h q := by
  have ho : opE (.eqq false k x y) e h none = some (.bool (decide p != false), h) := by simp only [opE, hx, hy, hc]
  by_cases c : p
  · exact .opV _ hg ho (by simp [c]) (kt c)
  · exact .opV _ hg ho (by simp [c]) (kf c)
theorem WS.eqqDn {x y : Operand} {k : EqK} {v w : Value} {p : Prop} [Decidable p] (hg : gd e g = some true) (hx : ev e x = some v) (hy : ev e y = some w) (hc : eqV k v w = some (decide p)) (kt : ¬ p → WS tab rb ss (put e d (.bool true)) h q) (kf : p → WS tab rb ss (put e d (.bool false)) h q) : WS tab rb (.op d g (.eqq true k x y) :: ss) e h q := by
  have ho : opE (.eqq true k x y) e h none = some (.bool (decide p != true), h) := by simp only [opE, hx, hy, hc]
  by_cases c : p
  · exact .opV _ hg ho (by simp [c]) (kf c)
  · exact .opV _ hg ho (by simp [c]) (kt c)
theorem int_beq (a b : Nat) : ((a : Int) == (b : Int)) = decide (a = b) := by
  by_cases c : a = b
  · simp [c]
  · simp [c]; omega
theorem int_beq0 (a : Nat) : ((a : Int) == 0) = decide (a = 0) := int_beq a 0
theorem str_beq (l m : List UInt8) : ((bs l).toList == (bs m).toList) = decide (l = m) := by
  rw [bs_toList, bs_toList]
  by_cases c : l = m
  · simp [c]
  · simp [c]
theorem bool_beq (a b : Bool) : (a == b) = decide (a = b) := by cases a <;> cases b <;> rfl
section
variable {α : Type} {K : Row α}
theorem Row.flat_set : ∀ {l : List α} {j k : Nat} {y y' : α} {v : Value}, l[j]? = some y → k < K.n → (K.cells y).set k v = K.cells y' → splice (K.flat l) (j * K.n + k) [v] = K.flat (l.set j y') := by
  intro l
  induction l with
  | nil => intro j k y y' v hj; simp at hj
  | cons x l ih =>
    intro j k y y' v hj hk hs
    cases j with
    | zero =>
      simp at hj; subst hj
      rw [List.set_cons_zero, K.flat_cons, K.flat_cons, ← hs, Nat.zero_mul, Nat.zero_add]
      have hl := K.len x
      unfold splice
      rw [List.take_append_of_le_length (by omega), List.length_singleton, List.drop_append_of_le_length (by omega), ← List.append_assoc]
      rw [List.set_eq_take_append_cons_drop, if_pos (by omega)]; simp
    | succ j =>
      simp at hj
      have h2 := ih hj hk hs
      rw [List.set_cons_succ, K.flat_cons, K.flat_cons, ← h2]
      have hl := K.len x
      have e : (j + 1) * K.n + k = (K.cells x).length + (j * K.n + k) := by rw [hl, Nat.add_mul, Nat.one_mul]; omega
      unfold splice
      rw [e, List.take_append, List.length_singleton, List.drop_append, List.take_of_length_le (by omega), List.drop_of_length_le (by omega), List.nil_append, List.append_assoc, List.append_assoc, List.append_assoc]
      rw [show (K.cells x).length + (j * K.n + k) - (K.cells x).length = j * K.n + k by omega, show (K.cells x).length + (j * K.n + k) + 1 - (K.cells x).length = j * K.n + k + 1 by omega]
theorem WS.stE {p j k es : Nat} {l : List α} {y y' : α} {v : Value} {x z : Operand} (M : Mem base h ([(p, ⟨K.flat l, es, false⟩)] :: L) R) (hy : l[j]? = some y) (hk : k < K.n) (hs : (K.cells y).set k v = K.cells y') (hg : gd e g = some true) (hx : ev e x = some (.pointer (some ⟨p, 0 + j * K.n + k, none⟩))) (hz : ev e z = some v) (hv : v.cells.toList = [v]) (ho : v.oneCell' = true)
    (w : ∀ h1, Mem base h1 ([(p, ⟨K.flat (l.set j y'), es, false⟩)] :: L) R → WS tab rb ss (put e d undef) h1 q) : WS tab rb (.op d g (.st 1 x z) :: ss) e h q := by
  have hj := (List.getElem?_eq_some_iff.1 hy).1
  have hle : 0 + j * K.n + k + [v].length ≤ (K.flat l).length := by
    rw [K.flat_length]
    have := Nat.mul_le_mul_right K.n (show j + 1 ≤ l.length by omega)
    rw [Nat.add_mul, Nat.one_mul] at this
    simp; omega
  refine WS.st1 M [v] (K.flat (l.set j y')) hg hx hz hv rfl (by decide) hle (by simp [ho]) ?_ w
  rw [Nat.zero_add]; exact Row.flat_set hy hk hs
end
def simple1 : Value → Bool
  | .slice _ _ _ => true
  | v => plain1 v
theorem sameL_self : ∀ {l : List Value}, l.all simple1 = true → sameL l l = true := by
  intro l
  induction l with
  | nil => intro _; rfl
  | cons v l ih =>
    intro h
    simp only [List.all_cons, Bool.and_eq_true] at h
    simp only [sameL, ih h.2, Bool.and_true]
    unfold simple1 at h
    obtain ⟨h, _⟩ := h
    split at h
    · rename_i P n c; cases P <;> simp [same1, sameA]
    · exact same1_refl h
def KNat : Row Nat := ⟨fun n => [.int .u64 (n : Int)], 1, fun _ => rfl, by decide, fun _ => rfl⟩
end Go.Proofs.Yteikngjiaboeaaa.Am
namespace Go.Proofs.Yteikngjiaboeaaa.Wt
open Go Go.Proofs.Yteikngjiaboeaaa.Am Go.Proofs.Yteikngjiaboeaaa.IrAll
set_option linter.unusedVariables false
set_option linter.unusedSimpArgs false
def hi (n : Nat) : List UInt8 := if h : n = 0 then [] else hi (n / 128) ++ [UInt8.ofNat (128 + n % 128)]
termination_by n
decreasing_by omega
def vb (n : Nat) : List UInt8 := hi (n / 128) ++ [UInt8.ofNat (n % 128)]
theorem hi_zero : hi 0 = [] := by unfold hi; simp
theorem hi_pos {n : Nat} (h : n ≠ 0) : hi n = hi (n / 128) ++ [UInt8.ofNat (128 + n % 128)] := by
  conv => lhs; unfold hi
  rw [dif_neg h]
theorem hi_nil {n : Nat} (h : hi n = []) : n = 0 := by
  by_cases c : n = 0
  · exact c
  · rw [hi_pos c] at h; simp at h
theorem hi_step {n r : Nat} (hr : r < 128) (h : n ≠ 0 ∨ r ≠ 0) : hi (n * 128 + r) = hi n ++ [UInt8.ofNat (128 + r)] := by
  rw [hi_pos (by omega), show (n * 128 + r) / 128 = n by omega, show (n * 128 + r) % 128 = r by omega]
theorem hi_length {k : Nat} : ∀ {n : Nat}, n < 128 ^ k → (hi n).length ≤ k := by
  induction k with
  | zero => intro n h; have : n = 0 := by simpa using h
            subst this; rw [hi_zero]; simp
  | succ k ih =>
    intro n h
    by_cases c : n = 0
    · subst c; rw [hi_zero]; simp
    · rw [hi_pos c, List.length_append]
      have : n / 128 < 128 ^ k := by rw [Nat.pow_succ] at h; omega
      have := ih this
      simp; omega
theorem vb_ne (n : Nat) : vb n ≠ [] := by simp [vb]
theorem vb_step {n r : Nat} (hr : r < 128) : vb (n * 128 + r) = hi n ++ [UInt8.ofNat r] := by
  unfold vb; rw [show (n * 128 + r) / 128 = n by omega, show (n * 128 + r) % 128 = r by omega]
theorem vb_len {n : Nat} (h : n < 18446744073709551616) : (vb n).length ≤ 10 := by
  have : (hi (n / 128)).length ≤ 9 := hi_length (by omega)
  simp [vb]; omega
def rv : List UInt8 → Nat → Nat → Option (Nat × Nat)
  | [], _, _ => none
  | c :: s, n, k => if (k = 0 ∧ c.toNat = 128) ∨ 144115188075855872 ≤ n then none else if c.toNat < 128 then some (n * 128 + c.toNat, k + 1) else rv s (n * 128 + (c.toNat - 128)) (k + 1)
def getV (s : List UInt8) : Option (Nat × Nat) := rv s 0 0
def rvN (s : List UInt8) : Nat := match getV s with | some p => p.1 | none => 0
def rvK (s : List UInt8) : Nat := match getV s with | some p => p.2 | none => 0
def rvOK (s : List UInt8) : Bool := (getV s).isSome
theorem ofNat_toNat (c : UInt8) : UInt8.ofNat c.toNat = c := by simp
theorem toNat_ofNat {n : Nat} (h : n < 256) : (UInt8.ofNat n).toNat = n := by
  simp [UInt8.toNat_ofNat']; omega
theorem rv_sound : ∀ (s : List UInt8) (n k m j : Nat) (p : List UInt8), rv s n k = some (m, j) → hi n = p → p.length = k → ∃ t r, s = t ++ r ∧ p ++ t = vb m ∧ j = (p ++ t).length ∧ m < 18446744073709551616 := by
  intro s
  induction s with
  | nil => intro n k m j p h; cases h
  | cons c s ih =>
    intro n k m j p h hp hk
    simp only [rv] at h
    split at h
    · cases h
    · rename_i hc
      have hc2 := c.toNat_lt
      split at h
      · rename_i hl; cases h
        refine ⟨[c], s, rfl, ?_, by simp [hk], by omega⟩
        rw [vb_step hl, ofNat_toNat, hp]
      · rename_i hl
        have hn : n ≠ 0 ∨ c.toNat - 128 ≠ 0 := by
          by_cases c0 : n = 0
          · right; intro c1
            have : p = [] := by rw [← hp, c0, hi_zero]
            exact hc (.inl ⟨by rw [← hk, this]; rfl, by omega⟩)
          · exact .inl c0
        have h2 := hi_step (n := n) (r := c.toNat - 128) (by omega) hn
        rw [show 128 + (c.toNat - 128) = c.toNat by omega, ofNat_toNat, hp] at h2
        obtain ⟨t, r, e1, e2, e3, e4⟩ := ih _ _ _ _ _ h h2 (by simp [hk])
        exact ⟨c :: t, r, by rw [e1]; rfl, by rw [← e2]; simp, by rw [e3]; simp, e4⟩
theorem rv_hi : ∀ (m : Nat) (r : List UInt8), m < 144115188075855872 → rv (hi m ++ r) 0 0 = rv r m (hi m).length := by
  intro m
  induction m using Nat.strongRecOn with
  | _ m ih =>
    intro r hm
    by_cases c : m = 0
    · subst c; rw [hi_zero]; rfl
    · have hx : (UInt8.ofNat (128 + m % 128)).toNat = 128 + m % 128 := toNat_ofNat (by omega)
      rw [hi_pos c, List.append_assoc, ih (m / 128) (by omega) _ (by omega), List.singleton_append]
      simp only [rv]
      rw [if_neg, if_neg (by rw [hx]; omega), hx]
      · rw [show m / 128 * 128 + (128 + m % 128 - 128) = m by omega]; simp
      · rintro (⟨h1, h2⟩ | h2)
        · have : m / 128 = 0 := hi_nil (List.eq_nil_of_length_eq_zero h1)
          rw [hx] at h2; omega
        · omega
theorem getV_vb {n : Nat} (h : n < 18446744073709551616) (r : List UInt8) : getV (vb n ++ r) = some (n, (vb n).length) := by
  unfold getV vb
  have hx : (UInt8.ofNat (n % 128)).toNat = n % 128 := toNat_ofNat (by omega)
  rw [List.append_assoc, rv_hi _ _ (by omega), List.singleton_append]
  simp only [rv]
  rw [if_neg, if_pos (by rw [hx]; omega), hx]
  · rw [show n / 128 * 128 + n % 128 = n by omega]; simp
  · rintro (⟨h1, h2⟩ | h2)
    · rw [hx] at h2; omega
    · omega
theorem getV_some {s : List UInt8} {n k : Nat} (h : getV s = some (n, k)) : s = vb n ++ s.drop k ∧ k = (vb n).length ∧ n < 18446744073709551616 := by
  obtain ⟨t, r, e1, e2, e3, e4⟩ := rv_sound s 0 0 n k [] h hi_zero rfl
  simp only [List.nil_append] at e2 e3
  subst e1
  refine ⟨?_, by rw [e3, e2], e4⟩
  rw [e3, ← e2, List.drop_left]
theorem getV_le {s : List UInt8} {n k : Nat} (h : getV s = some (n, k)) : 1 ≤ k ∧ k ≤ s.length ∧ k ≤ 10 := by
  obtain ⟨e1, e2, e3⟩ := getV_some h
  have h1 : 0 < (vb n).length := List.length_pos_iff.2 (vb_ne n)
  have h2 := congrArg List.length e1
  have h3 := vb_len e3
  simp only [List.length_append] at h2; omega
theorem rvK_le (s : List UInt8) : rvK s ≤ s.length ∧ rvK s ≤ 10 := by
  unfold rvK; split
  · rename_i p hp; exact ⟨(getV_le hp).2.1, (getV_le hp).2.2⟩
  · simp
theorem rvN_lt (s : List UInt8) : rvN s < 18446744073709551616 := by
  unfold rvN; split
  · rename_i p hp; exact (getV_some hp).2.2
  · omega
theorem rv_eq_some {s : List UInt8} {n k : Nat} (h : getV s = some (n, k)) : rvN s = n ∧ rvK s = k ∧ rvOK s = true := by simp [rvN, rvK, rvOK, h]
theorem rv_eq_none {s : List UInt8} (h : getV s = none) : rvN s = 0 ∧ rvK s = 0 ∧ rvOK s = false := by simp [rvN, rvK, rvOK, h]
theorem getV_eq (s : List UInt8) : getV s = if rvOK s then some (rvN s, rvK s) else none := by
  unfold rvN rvK rvOK; cases getV s <;> simp
def sb (t : List UInt8) : List UInt8 := vb t.length ++ t
def getS (s : List UInt8) : Option (List UInt8 × Nat) := match getV s with
  | some (n, k) => if n ≤ s.length - k then some ((s.drop k).take n, k + n) else none
  | none => none
def rsT (s : List UInt8) : List UInt8 := match getS s with | some p => p.1 | none => []
def rsK (s : List UInt8) : Nat := match getS s with | some p => p.2 | none => 0
def rsOK (s : List UInt8) : Bool := (getS s).isSome
theorem getS_sb {t : List UInt8} (h : t.length < 18446744073709551616) (r : List UInt8) : getS (sb t ++ r) = some (t, (sb t).length) := by
  unfold getS sb
  rw [List.append_assoc, getV_vb h]
  simp
theorem getS_some {s t : List UInt8} {k : Nat} (h : getS s = some (t, k)) : s = sb t ++ s.drop k ∧ k = (sb t).length ∧ t.length < 18446744073709551616 := by
  unfold getS at h
  split at h
  · rename_i n j hv
    obtain ⟨e1, e2, e3⟩ := getV_some hv
    have hl := congrArg List.length e1
    simp only [List.length_append, List.length_drop] at hl
    split at h
    · rename_i hn; cases h
      have hlen : ((s.drop j).take n).length = n := by simp; omega
      refine ⟨?_, by unfold sb; rw [List.length_append, hlen, ← e2], by rw [hlen]; exact e3⟩
      unfold sb; rw [hlen, List.append_assoc]
      conv => lhs; rw [e1]
      congr 1
      conv => lhs; rw [← List.take_append_drop n (s.drop j)]
      rw [List.drop_drop]
    · cases h
  · cases h
theorem getS_le {s t : List UInt8} {k : Nat} (h : getS s = some (t, k)) : 1 ≤ k ∧ k ≤ s.length ∧ t.length ≤ k := by
  obtain ⟨e1, e2, e3⟩ := getS_some h
  have h1 : 0 < (vb t.length).length := List.length_pos_iff.2 (vb_ne _)
  have h2 := congrArg List.length e1
  simp only [sb, List.length_append] at h2 e2; omega
theorem rsK_le (s : List UInt8) : rsK s ≤ s.length := by
  unfold rsK; split
  · rename_i p hp; exact (getS_le hp).2.1
  · simp
theorem rsT_le (s : List UInt8) : (rsT s).length ≤ s.length := by
  unfold rsT; split
  · rename_i p hp; have := getS_le hp; omega
  · simp
theorem rs_eq_some {s t : List UInt8} {k : Nat} (h : getS s = some (t, k)) : rsT s = t ∧ rsK s = k ∧ rsOK s = true := by simp [rsT, rsK, rsOK, h]
theorem rs_eq_none {s : List UInt8} (h : getS s = none) : rsT s = [] ∧ rsK s = 0 ∧ rsOK s = false := by simp [rsT, rsK, rsOK, h]
theorem getS_eq (s : List UInt8) : getS s = if rsOK s then some (rsT s, rsK s) else none := by
  unfold rsT rsK rsOK; cases getS s <;> simp
theorem sb_len {t : List UInt8} (h : t.length < 18446744073709551616) : (sb t).length ≤ t.length + 10 := by
  have := vb_len h; simp [sb]; omega
theorem bv8 (a : Nat) (h : a < 256) (b : Nat) (hb : b < 256) : IntKind.u8.wrap ((BitVec.ofInt IntKind.u8.bits (a : Int) &&& BitVec.ofInt IntKind.u8.bits (b : Int)).toNat : Nat) = ((a &&& b : Nat) : Int) := by
  have h1 : a &&& b ≤ a := Nat.and_le_left
  have e1 : ((a : Int) % ((2 ^ 8 : Nat) : Int)).toNat = a := by omega
  have e2 : ((b : Int) % ((2 ^ 8 : Nat) : Int)).toNat = b := by omega
  have key : (BitVec.ofInt 8 (a : Int) &&& BitVec.ofInt 8 (b : Int)).toNat = a &&& b := by simp only [BitVec.toNat_and, BitVec.toNat_ofInt]; rw [e1, e2]
  show IntKind.u8.wrap ((BitVec.ofInt 8 (a : Int) &&& BitVec.ofInt 8 (b : Int)).toNat : Int) = _
  rw [key, IntKind.wrap_u8]; omega
theorem and127 (a : Nat) : a &&& 127 = a % 128 := Nat.and_two_pow_sub_one_eq_mod a 7
theorem low_u8 (c : UInt8) : Value.int .u8 (IntKind.u8.wrap ((BitVec.ofInt IntKind.u8.bits (c.toNat : Int) &&& BitVec.ofInt IntKind.u8.bits 127).toNat : Nat)) = .int .u8 ((c.toNat % 128 : Nat) : Int) := by
  have := bv8 c.toNat c.toNat_lt 127 (by omega)
  rw [and127] at this; rw [← this]; rfl
theorem more_all : ∀ a : Fin 256, a.val &&& 128 = if a.val < 128 then 0 else 128 := by decide +kernel
theorem more_u8 (c : UInt8) : Value.int .u8 (IntKind.u8.wrap ((BitVec.ofInt IntKind.u8.bits (c.toNat : Int) &&& BitVec.ofInt IntKind.u8.bits 128).toNat : Nat)) = .int .u8 ((if c.toNat < 128 then 0 else 128 : Nat) : Int) := by
  have h := bv8 c.toNat c.toNat_lt 128 (by omega)
  have h2 := more_all ⟨c.toNat, c.toNat_lt⟩
  simp only at h2
  rw [h2] at h; rw [← h]; rfl
theorem bv64 (a b : Nat) (h : a < 18446744073709551616) (hb : b < 18446744073709551616) : IntKind.u64.wrap ((BitVec.ofInt IntKind.u64.bits (a : Int) &&& BitVec.ofInt IntKind.u64.bits (b : Int)).toNat : Nat) = ((a &&& b : Nat) : Int) := by
  have h1 : a &&& b ≤ a := Nat.and_le_left
  have e1 : ((a : Int) % ((2 ^ 64 : Nat) : Int)).toNat = a := by omega
  have e2 : ((b : Int) % ((2 ^ 64 : Nat) : Int)).toNat = b := by omega
  have key : (BitVec.ofInt 64 (a : Int) &&& BitVec.ofInt 64 (b : Int)).toNat = a &&& b := by simp only [BitVec.toNat_and, BitVec.toNat_ofInt]; rw [e1, e2]
  show IntKind.u64.wrap ((BitVec.ofInt 64 (a : Int) &&& BitVec.ofInt 64 (b : Int)).toNat : Int) = _
  rw [key, wu64]; omega
theorem bvo64 (a b : Nat) (h : a < 18446744073709551616) (hb : b < 18446744073709551616) : IntKind.u64.wrap ((BitVec.ofInt IntKind.u64.bits (a : Int) ||| BitVec.ofInt IntKind.u64.bits (b : Int)).toNat : Nat) = ((a ||| b : Nat) : Int) := by
  have h1 : a ||| b < 2 ^ 64 := Nat.or_lt_two_pow (by omega) (by omega)
  have e1 : ((a : Int) % ((2 ^ 64 : Nat) : Int)).toNat = a := by omega
  have e2 : ((b : Int) % ((2 ^ 64 : Nat) : Int)).toNat = b := by omega
  have key : (BitVec.ofInt 64 (a : Int) ||| BitVec.ofInt 64 (b : Int)).toNat = a ||| b := by simp only [BitVec.toNat_or, BitVec.toNat_ofInt]; rw [e1, e2]
  show IntKind.u64.wrap ((BitVec.ofInt 64 (a : Int) ||| BitVec.ofInt 64 (b : Int)).toNat : Int) = _
  rw [key, wu64]; omega
theorem or_add (n r : Nat) (hr : r < 128) : n * 128 ||| r = n * 128 + r := by
  have := Nat.two_pow_add_eq_or_of_lt (i := 7) (b := r) (by omega) n
  rw [Nat.mul_comm n 128]; exact this.symm
theorem shl7 {n : Nat} (h : n < 144115188075855872) : Value.int .u64 (IntKind.u64.wrap ((n : Int) * 2 ^ (min (Int.toNat 7) IntKind.u64.bits))) = .int .u64 ((n * 128 : Nat) : Int) := by
  congr 1
  have : (2 : Int) ^ (min (Int.toNat 7) IntKind.u64.bits) = 128 := by decide
  rw [this, wu64]; omega
theorem or7 {n r : Nat} (h : n * 128 < 18446744073709551616) (hr : r < 128) : Value.int .u64 (IntKind.u64.wrap ((BitVec.ofInt IntKind.u64.bits ((n * 128 : Nat) : Int) ||| BitVec.ofInt IntKind.u64.bits (r : Int)).toNat : Nat)) = .int .u64 ((n * 128 + r : Nat) : Int) := by
  congr 1; rw [bvo64 _ _ h (by omega), or_add _ _ hr]
theorem fdiv_nat (n k : Nat) : Int.fdiv (n : Int) (k : Int) = ((n / k : Nat) : Int) := by
  rw [Int.fdiv_eq_ediv_of_nonneg _ (by omega)]; rfl
theorem shr57 (n : Nat) : Value.int .u64 (Int.fdiv (n : Int) (2 ^ (min (Int.toNat 57) IntKind.u64.bits))) = .int .u64 ((n / 144115188075855872 : Nat) : Int) := by
  congr 1
  have : (2 : Int) ^ (min (Int.toNat 57) IntKind.u64.bits) = ((144115188075855872 : Nat) : Int) := by decide
  rw [this, fdiv_nat]
theorem shr7 (n : Nat) : Value.int .u64 (Int.fdiv (n : Int) (2 ^ (min (Int.toNat 7) IntKind.u64.bits))) = .int .u64 ((n / 128 : Nat) : Int) := by
  congr 1
  have : (2 : Int) ^ (min (Int.toNat 7) IntKind.u64.bits) = ((128 : Nat) : Int) := by decide
  rw [this, fdiv_nat]
theorem drop_cons {l : List UInt8} {k : Nat} {c : UInt8} (hc : l[k]? = some c) : l.drop k = c :: l.drop (k + 1) := by
  obtain ⟨h1, h2⟩ := List.getElem?_eq_some_iff.1 hc
  rw [List.drop_eq_getElem_cons h1, h2]
def rvV (l : List UInt8) : Value := .tuple #[.int .u64 (rvN l : Int), .int .i64 (rvK l : Int), .bool (rvOK l)]
theorem rvV_some {l : List UInt8} {n k : Nat} (h : getV l = some (n, k)) : rvV l = .tuple #[.int .u64 (n : Int), .int .i64 (k : Int), .bool true] := by
  obtain ⟨e1, e2, e3⟩ := rv_eq_some h; simp only [rvV, e1, e2, e3]
theorem rvV_none {l : List UInt8} (h : getV l = none) : rvV l = .tuple #[.int .u64 0, .int .i64 0, .bool false] := by
  obtain ⟨e1, e2, e3⟩ := rv_eq_none h; simp only [rvV, e1, e2, e3]; rfl
theorem rv_ten {s : List UInt8} {n k : Nat} (hk : 10 ≤ k) (hn : (hi n).length = k) : rv s n k = none := by
  have : 144115188075855872 ≤ n := by
    rcases Nat.lt_or_ge n 144115188075855872 with h | h
    · have := hi_length (k := 9) (n := n) (by omega); omega
    · exact h
  cases s with
  | nil => rfl
  | cons c s => simp only [rv]; rw [if_pos (.inr this)]
theorem len_step {n k c : Nat} (hc : 128 ≤ c) (hc2 : c < 256) (i3 : (hi n).length = k) (hp : ¬(k = 0 ∧ c = 128)) : (hi (n * 128 + c % 128)).length = k + 1 := by
  rw [hi_step (by omega), List.length_append, i3]; rfl
  by_cases q : n = 0
  · subst q; rw [hi_zero] at i3; simp at i3; right; omega
  · exact .inl q
theorem more_zero {c : Nat} (h : (if c < 128 then 0 else 128 : Nat) = 0) : c < 128 := by
  by_cases q : c < 128
  · exact q
  · rw [if_neg q] at h; simp at h
theorem more_ne {c : Nat} (h : (if c < 128 then 0 else 128 : Nat) ≠ 0) : 128 ≤ c := by
  by_cases q : c < 128
  · rw [if_pos q] at h; simp at h
  · omega
theorem num_ReadV_ran {h : H} (W : Mem h h [] []) {l : List UInt8} (hl : l.length < 9223372036854775808) : Cll tab0 34 [.string (bs l)] h (fun v h2 => v = rvV l ∧ Mem h h2 [] []) := by
  refine Cll.code rfl rfl ?_
  refine WC.env [(0, _)] rfl ?_
  refine WC.seq ?_
  refine WC.run ?_
  refine WS.op rfl rfl (WS.op rfl rfl (WS.op rfl rfl (WS.nil [(0, _), (2, _), (3, _)] rfl ?_)))
  refine WC.seq ?_
  refine WC.block ?_
  obtain ⟨L1, eL3, M2⟩ := Mem.name W.bare
  refine WC.loop (σ := Nat × Nat) (fun ((n, k)) => [(0, (.string (bs l))), (2, (.int .u64 ((n : Nat) : Int))), (3, (.int .i64 ((k : Nat) : Int)))]) (fun ((n, k)) hh => Mem h hh (L1) [] ∧ getV l = rv (l.drop k) n k ∧ k ≤ l.length ∧ (hi n).length = k ∧ n < 18446744073709551616) (fun ((n, k)) => l.length - k) (0, 0) rfl ⟨M2, ?_⟩ ?_
  · exact ⟨rfl, by omega, by rw [hi_zero]; rfl, by omega⟩
  ·rintro ⟨n, k⟩ h4 ⟨M5, ⟨i1, i2, i3, i4⟩⟩
   subst eL3
   refine WC.env [(0, _), (2, _), (3, _)] rfl ?_
   refine WC.seq ?_
   refine WC.seq ?_
   refine WC.run ?_
   refine WS.op rfl rfl (WS.op rfl rfl (WS.op rfl (op_lenS (l := l) rfl) ?_))
   refine WS.lssN (a := k) (b := (l).length) rfl rfl rfl (fun e9 => ?_) (fun e9 => ?_)
   ·
    refine WS.op rfl rfl (WS.op rfl rfl ?_)
    refine WS.lssN (a := k) (b := 10) rfl rfl rfl (fun e12 => ?_) (fun e12 => ?_)
    ·
     refine WS.op rfl rfl (WS.nil [(0, _), (2, _), (3, _), (13, _)] rfl ?_)
     refine WC.condT rfl ?_
     refine WC.skip ?_
     refine WC.block ?_
     refine WC.seq ?_
     refine WC.run ?_
     refine WS.op rfl rfl (WS.op rfl rfl ?_)
     obtain ⟨c, hc⟩ : ∃ c, l[k]? = some c := ⟨_, List.getElem?_eq_getElem (show k < l.length by omega)⟩
     have hcl := c.toNat_lt
     rw [drop_cons hc] at i1
     simp only [rv] at i1
     refine WS.op rfl (op_ixS k rfl rfl hc) (WS.op rfl rfl (WS.nil [(0, _), (2, _), (3, _), (5, _)] rfl ?_))
     refine WC.seq ?_
     refine WC.seq ?_
     obtain ⟨L6, eL8, M7⟩ := Mem.name M5.bare
     refine WC.joinB (base := h) (fun b => [(0, (.string (bs l))), (2, (.int .u64 ((n : Nat) : Int))), (3, (.int .i64 ((k : Nat) : Int))), (5, (.int .u8 (((c).toNat : Nat) : Int))), (27, .bool b)]) L6 (getV l = none) (¬(k = 0 ∧ c.toNat = 128) ∧ n < 144115188075855872) ?_ ?_ ?_
     ·subst eL8
      refine WS.op rfl rfl ?_
      refine WS.eqlN (a := k) (b := 0) rfl rfl rfl (fun e18 => ?_) (fun e18 => ?_)
      ·
       refine WS.op rfl rfl (WS.op rfl rfl ?_)
       refine WS.eqlN (a := (c).toNat) (b := 128) rfl rfl rfl (fun e21 => ?_) (fun e21 => ?_)
       ·
        refine WS.op rfl rfl (WS.op rfl rfl (WS.off rfl (WS.off rfl (WS.off rfl (WS.op rfl rfl ?_)))))
        refine WS.nil' ⟨true, rfl, (M7.bare.take 0), fun _ => ?_, fun hh => ?_⟩
        · rw [i1, if_pos (by omega)]
        · cases hh
       ·
        refine WS.op rfl rfl (WS.op rfl rfl (WS.op rfl rfl (WS.opV (.int .u64 ((n / 144115188075855872 : Nat) : Int)) rfl rfl (shr57 n) ?_)))
        refine WS.gtrN (a := (n / 144115188075855872)) (b := 0) rfl rfl rfl (fun e26 => ?_) (fun e26 => ?_)
        ·
         refine WS.op rfl rfl ?_
         refine WS.nil' ⟨true, rfl, (M7.bare.take 0), fun _ => ?_, fun hh => ?_⟩
         · rw [i1, if_pos (by omega)]
         · cases hh
        ·
         refine WS.op rfl rfl ?_
         refine WS.nil' ⟨false, rfl, (M7.bare.take 0), fun hh => ?_, fun _ => ?_⟩
         · cases hh
         · omega
      ·
       refine WS.op rfl rfl (WS.off rfl (WS.off rfl (WS.op rfl rfl (WS.op rfl rfl (WS.op rfl rfl (WS.opV (.int .u64 ((n / 144115188075855872 : Nat) : Int)) rfl rfl (shr57 n) ?_))))))
       refine WS.gtrN (a := (n / 144115188075855872)) (b := 0) rfl rfl rfl (fun e26 => ?_) (fun e26 => ?_)
       ·
        refine WS.op rfl rfl ?_
        refine WS.nil' ⟨true, rfl, (M7.bare.take 0), fun _ => ?_, fun hh => ?_⟩
        · rw [i1, if_pos (by omega)]
        · cases hh
       ·
        refine WS.op rfl rfl ?_
        refine WS.nil' ⟨false, rfl, (M7.bare.take 0), fun hh => ?_, fun _ => ?_⟩
        · cases hh
        · omega
     ·intro h9 M10 hp27
      subst eL8
      refine WC.condT rfl ?_
      refine WC.exit ?_
      refine WC.seq ?_
      refine WC.run ?_
      refine WS.op rfl rfl (WS.op rfl rfl (WS.op rfl rfl (WS.nil [(2, _), (3, _), (4, _)] rfl ?_)))
      refine WC.ret ?_
      refine ⟨[_, _, _], (res_tmp rfl (res_tmp rfl (res_tmp rfl res_nil))), ?_⟩
      exact ⟨by rw [rvV_none hp27]; rfl, M10.bare.take 0⟩
     ·intro h11 M12 hp27
      subst eL8
      refine WC.condF rfl ?_
      refine WC.skip ?_
      refine WC.seq ?_
      refine WC.run ?_
      refine WS.op rfl rfl (WS.opV (.int .u64 ((n * 128 : Nat) : Int)) rfl rfl (shl7 (by omega)) (WS.op rfl rfl (WS.opV (.int .u8 ((c.toNat % 128 : Nat) : Int)) rfl rfl (low_u8 c) (WS.opV (.int .u64 (((c.toNat % 128) : Nat) : Int)) rfl rfl (cv_u64 (n := (c.toNat % 128)) (by omega)) (WS.opV (.int .u64 ((n * 128 + c.toNat % 128 : Nat) : Int)) rfl rfl (or7 (by omega) (by omega)) (WS.op rfl rfl (WS.nil [(0, _), (2, _), (3, _), (5, _)] rfl ?_)))))))
      refine WC.seq ?_
      refine WC.run ?_
      refine WS.op rfl rfl (WS.opV (.int .i64 (((k + 1) : Nat) : Int)) rfl rfl (add_i64 (a := k) (b := 1) (by omega)) (WS.op rfl rfl (WS.nil [(0, _), (2, _), (3, _), (5, _)] rfl ?_)))
      refine WC.seq ?_
      refine WC.run ?_
      refine WS.op rfl rfl (WS.opV (.int .u8 ((if c.toNat < 128 then 0 else 128 : Nat) : Int)) rfl rfl (more_u8 c) ?_)
      refine WS.eqlN (a := (if c.toNat < 128 then 0 else 128)) (b := 0) rfl rfl rfl (fun e38 => ?_) (fun e38 => ?_)
      ·
       refine WS.nil [(0, _), (2, _), (3, _), (38, _)] rfl ?_
       refine WC.condT rfl ?_
       refine WC.seq ?_
       refine WC.run ?_
       refine WS.op rfl rfl (WS.op rfl rfl (WS.op rfl rfl (WS.op rfl rfl (WS.op rfl rfl (WS.nil [(2, _), (3, _), (4, _)] rfl ?_)))))
       refine WC.ret ?_
       refine ⟨[_, _, _], (res_tmp rfl (res_tmp rfl (res_tmp rfl res_nil))), ?_⟩
       have hm := more_zero e38
       exact ⟨by rw [rvV_some (n := n * 128 + c.toNat % 128) (k := k + 1) (by rw [i1, if_neg (by omega), if_pos hm, Nat.mod_eq_of_lt hm])]; rfl, M12.bare.take 0⟩
      ·
       refine WS.nil [(0, _), (2, _), (3, _), (38, _)] rfl ?_
       refine WC.condF rfl ?_
       refine WC.skip ?_
       refine ⟨(n * 128 + c.toNat % 128, k + 1), rfl, ⟨(M12.bare.take 0), ?_⟩, ?_⟩
       · have hm := more_ne e38; exact ⟨by rw [i1, if_neg (by omega), if_neg (by omega), show c.toNat % 128 = c.toNat - 128 by omega], by omega, len_step hm hcl i3 hp27.1, by omega⟩
       · simp only []; omega
    ·
     refine WS.op rfl rfl (WS.nil [(0, _), (2, _), (3, _), (13, _)] rfl ?_)
     refine WC.condF rfl ?_
     refine WC.exit ?_
     refine WC.seq ?_
     refine WC.run ?_
     refine WS.op rfl rfl (WS.op rfl rfl (WS.op rfl rfl (WS.nil [(2, _), (3, _), (4, _)] rfl ?_)))
     refine WC.ret ?_
     refine ⟨[_, _, _], (res_tmp rfl (res_tmp rfl (res_tmp rfl res_nil))), ?_⟩
     exact ⟨by rw [rvV_none (i1.trans (rv_ten (by omega) i3))]; rfl, M5.bare.take 0⟩
   ·
    refine WS.op rfl rfl (WS.off rfl (WS.off rfl (WS.op rfl rfl (WS.nil [(0, _), (2, _), (3, _), (13, _)] rfl ?_))))
    refine WC.condF rfl ?_
    refine WC.exit ?_
    refine WC.seq ?_
    refine WC.run ?_
    refine WS.op rfl rfl (WS.op rfl rfl (WS.op rfl rfl (WS.nil [(2, _), (3, _), (4, _)] rfl ?_)))
    refine WC.ret ?_
    refine ⟨[_, _, _], (res_tmp rfl (res_tmp rfl (res_tmp rfl res_nil))), ?_⟩
    exact ⟨by rw [rvV_none (by rw [i1, List.drop_of_length_le (by omega)]; rfl)]; rfl, M5.bare.take 0⟩
theorem low_u64 {n : Nat} (h : n < 18446744073709551616) : Value.int .u64 (IntKind.u64.wrap ((BitVec.ofInt IntKind.u64.bits (n : Int) &&& BitVec.ofInt IntKind.u64.bits 127).toNat : Nat)) = .int .u64 ((n % 128 : Nat) : Int) := by
  have := bv64 n 127 h (by omega)
  rw [and127] at this; rw [← this]; rfl
theorem or_all : ∀ a : Fin 128, a.val ||| 128 = 128 + a.val := by decide +kernel
theorem or128 {r : Nat} (h : r < 128) : Value.int .u8 (IntKind.u8.wrap ((BitVec.ofInt IntKind.u8.bits ((UInt8.ofNat r).toNat : Int) ||| BitVec.ofInt IntKind.u8.bits 128).toNat : Nat)) = .int .u8 ((UInt8.ofNat (128 + r)).toNat : Int) := by
  rw [toNat_ofNat (by omega), toNat_ofNat (by omega)]
  congr 1
  have e1 : ((r : Int) % ((2 ^ 8 : Nat) : Int)).toNat = r := by omega
  have key : (BitVec.ofInt 8 (r : Int) ||| BitVec.ofInt 8 128).toNat = r ||| 128 := by simp only [BitVec.toNat_or, BitVec.toNat_ofInt]; rw [e1]; rfl
  have h2 := or_all ⟨r, h⟩
  simp only at h2
  show IntKind.u8.wrap ((BitVec.ofInt 8 (r : Int) ||| BitVec.ofInt 8 128).toNat : Int) = _
  rw [key, h2, IntKind.wrap_u8]; omega
theorem op_iaA1 {e : Env} {h : H} {x y : Operand} {p n : Nat} {k : IntKind} (j : Nat) (hx : ev e x = some (.pointer (some ⟨p, 0, none⟩))) (hy : ev e y = some (.int k (j : Int))) (hj : j < n) : opE (.iaA n 1 x y) e h none = some (.pointer (some ⟨p, j, none⟩), h) := by
  simp only [opE, hx, hy]; rw [if_pos ⟨by omega, by omega⟩]; simp
def u8v (b : UInt8) : Value := .int .u8 ((b.toNat : Nat) : Int)
def arr (a : Nat) (t : List UInt8) : List Value := List.replicate a (.int .u8 0) ++ t.map u8v
theorem arr_len (a : Nat) (t : List UInt8) : (arr a t).length = a + t.length := by simp [arr]
theorem arr_set {a : Nat} {t : List UInt8} (c : UInt8) (h : 0 < a) : splice (arr a t) (a - 1) [u8v c] = arr (a - 1) (c :: t) := by
  obtain ⟨b, rfl⟩ : ∃ b, a = b + 1 := ⟨a - 1, by omega⟩
  simp only [splice, arr, Nat.add_sub_cancel, List.length_singleton]
  rw [List.take_append_of_le_length (by simp), List.drop_append_of_le_length (by simp), List.take_replicate, List.drop_replicate]
  simp
theorem src_arr {h : H} {p a n c : Nat} {t : List UInt8} (hb : h.get p = some ⟨arr a t, 0, false⟩) (hn : n = t.length) : KU8.Src h (.slice (some ⟨p, 0 + a * 1, none⟩) n c) t := by
  subst hn
  refine ⟨rfl, ?_⟩
  simp only [srcCells]
  rw [lds_at hb (by rw [arr_len]; show 0 + a * 1 + t.length * 1 ≤ a + t.length; omega)]
  rw [KU8_flat, Nat.zero_add, Nat.mul_one]
  simp only [arr]
  rw [List.drop_left' (by simp), List.take_of_length_le (by simp; show t.length ≤ t.length * 1; omega)]; rfl
theorem flatMap_take_succ {α β : Type} {l : List α} {i : Nat} {y : α} (f : α → List β) (h : l[i]? = some y) : (l.take (i + 1)).flatMap f = (l.take i).flatMap f ++ f y := by
  rw [List.take_add_one, h]; simp
theorem flatMap_take_all {α β : Type} {l : List α} {i : Nat} (f : α → List β) (h : l.length ≤ i) : (l.take i).flatMap f = l.flatMap f := by rw [List.take_of_length_le h]
theorem flatMap_take_le {α β : Type} (l : List α) (i : Nat) (f : α → List β) : ((l.take i).flatMap f).length ≤ (l.flatMap f).length := by
  conv => rhs; rw [← List.take_append_drop i l, List.flatMap_append, List.length_append]
  omega
theorem flatMap_vb_len : ∀ (ns : List Nat), (∀ n ∈ ns, n < 18446744073709551616) → (ns.flatMap vb).length ≤ 10 * ns.length := by
  intro ns
  induction ns with
  | nil => intro _; simp
  | cons n ns ih =>
    intro h
    have h1 := vb_len (h n (by simp))
    have h2 := ih fun m hm => h m (by simp [hm])
    simp only [List.flatMap_cons, List.length_append, List.length_cons]; omega
theorem flatMap_sb_len : ∀ (ss : List (List UInt8)), (ss.map List.length).sum + 10 * ss.length ≤ 1099511627776 → (ss.flatMap sb).length ≤ (ss.map List.length).sum + 10 * ss.length := by
  intro ss
  induction ss with
  | nil => intro _; simp
  | cons t ss ih =>
    intro h
    simp only [List.flatMap_cons, List.length_append, List.length_cons, List.map_cons, List.sum_cons] at h ⊢
    have h1 := sb_len (t := t) (by omega)
    have h2 := ih (by omega)
    omega
theorem mem_get {α : Type} {l : List α} {i : Nat} {y : α} (h : l[i]? = some y) : y ∈ l := List.mem_of_getElem? h
set_option maxRecDepth 4000 in
theorem num_V_ran {h : H} (W : Mem h h [] []) {V0 : Value} {ns : List Nat} (A : KNat.Sl h V0 ns) (hn : ∀ n ∈ ns, n < 18446744073709551616) (hl3 : ns.length ≤ 1000000) {r : List UInt8} (hr : ns.flatMap vb = r) : Cll tab0 29 [V0] h (fun v h2 => v = .string (bs r) ∧ Mem h h2 [] []) := by
  have hl := flatMap_vb_len ns hn
  refine Cll.code rfl rfl ?_
  refine WC.env [(0, _)] rfl ?_
  refine WC.seq ?_
  refine WC.run ?_
  refine WS.op rfl rfl (WS.nil [(0, _)] rfl ?_)
  refine WC.seq ?_
  refine WC.run ?_
  refine WS.op rfl rfl (WS.nil [(0, _), (3, _)] rfl ?_)
  refine WC.seq ?_
  refine WC.seq ?_
  refine WC.run ?_
  refine WS.op rfl rfl (WS.op rfl (op_lenVS A rfl) (WS.op rfl rfl (WS.nil [(3, _), (8, _), (9, _), (10, _)] rfl ?_)))
  refine WC.block ?_
  obtain ⟨L1, eL3, M2⟩ := Mem.name1 ((W.bare).nils)
  refine WC.loop (σ := Value × Seg × Nat) (fun ((out, S, i)) => [(3, out), (8, V0), (9, (.int .i64 (((ns).length : Nat) : Int))), (10, (.int .i64 ((i : Nat) : Int)))]) (fun ((out, S, i)) hh => Mem h hh (S :: L1) [] ∧ KU8.Own out ((ns.take i).flatMap vb) S ∧ i ≤ ns.length) (fun ((out, S, i)) => ns.length - i) (.slice none 0 0, [], 0) rfl ⟨M2, ?_⟩ ?_
  · exact ⟨.nil, by omega⟩
  ·rintro ⟨out, S, i⟩ h4 ⟨M5, ⟨hO, hi1⟩⟩
   subst eL3
   refine WC.env [(3, _), (8, _), (9, _), (10, _)] rfl ?_
   refine WC.seq ?_
   refine WC.run ?_
   refine WS.lssN (a := i) (b := (ns).length) rfl rfl rfl (fun e11 => ?_) (fun e11 => ?_)
   ·
    refine WS.nil [(3, _), (8, _), (9, _), (10, _), (11, _)] rfl ?_
    refine WC.seq ?_
    refine WC.condT rfl ?_
    refine WC.skip ?_
    refine WC.seq ?_
    refine WC.block ?_
    refine WC.seq ?_
    refine WC.run ?_
    obtain ⟨x, hy⟩ : ∃ x, ns[i]? = some x := ⟨_, List.getElem?_eq_getElem (show i < ns.length by omega)⟩
    have hx64 := hn x (mem_get hy)
    have hfs := flatMap_take_succ vb hy
    have hfl := flatMap_take_le ns (i + 1) vb
    have hvl := vb_len hx64
    refine WS.iaVS A i hy rfl rfl rfl rfl ?_
    intro bx ox hx
    refine WS.op rfl (op_ldH rfl (At.ld0 (hx.mono M5.sub) rfl)) (WS.op rfl rfl (WS.nil [(3, _), (5, _), (8, _), (9, _), (10, _)] rfl ?_))
    refine WC.seq ?_
    refine WC.run ?_
    refine WS.new M5 rfl ?_
    intro p6 h7 M8
    refine WS.nil [(3, _), (5, _), (6, _), (8, _), (9, _), (10, _)] rfl ?_
    refine WC.seq ?_
    refine WC.run ?_
    refine WS.op rfl rfl (WS.nil [(3, _), (5, _), (6, _), (7, _), (8, _), (9, _), (10, _)] rfl ?_)
    refine WC.seq ?_
    refine WC.run ?_
    refine WS.op rfl rfl (WS.op rfl rfl (WS.opV (.int .u64 ((x % 128 : Nat) : Int)) rfl rfl (low_u64 hx64) (WS.opV (.int .u8 ((UInt8.ofNat (x % 128)).toNat : Int)) rfl rfl u8_ofNat (WS.op rfl rfl ?_))))
    refine WS.st1 (M8.focus 0 rfl) [_] [_, _, _, _, _, _, _, _, _, _] rfl rfl rfl rfl rfl (Nat.le_of_ble_eq_true rfl) (Nat.le_of_ble_eq_true rfl) rfl rfl ?_
    intro h9 M10
    replace M10 : Mem _ _ ([(p6, _)] :: S :: []) _ := M10
    refine WS.nil [(3, _), (5, _), (6, _), (7, _), (8, _), (9, _), (10, _)] rfl ?_
    refine WC.seq ?_
    refine WC.seq ?_
    refine WC.run ?_
    refine WS.op rfl rfl (WS.opV (.int .u64 ((x / 128 : Nat) : Int)) rfl rfl (shr7 x) (WS.op rfl rfl (WS.nil [(3, _), (5, _), (6, _), (7, _), (8, _), (9, _), (10, _)] rfl ?_)))
    refine WC.block ?_
    obtain ⟨L11, eL13, M12⟩ := Mem.name1 (M10.bare.focus 0 rfl)
    refine WC.loop (σ := Nat × Nat × List UInt8) (fun ((n, a, t)) => [(3, out), (5, (.int .u64 ((n : Nat) : Int))), (6, (.pointer (some ⟨p6, 0, none⟩))), (7, (.int .i64 ((a : Nat) : Int))), (8, V0), (9, (.int .i64 (((ns).length : Nat) : Int))), (10, (.int .i64 ((i : Nat) : Int)))]) (fun ((n, a, t)) hh => Mem h hh ([(p6, ⟨arr a t, 0, false⟩)] :: L11) [] ∧ vb x = hi n ++ t ∧ a + t.length = 10 ∧ (hi n).length ≤ a ∧ n < 18446744073709551616) (fun ((n, a, t)) => n) (x / 128, 9, [UInt8.ofNat (x % 128)]) rfl ⟨(by exact M12), ?_⟩ ?_
    · exact ⟨rfl, by simp, hi_length (k := 9) (by omega), by omega⟩
    ·rintro ⟨n, a, t⟩ h14 ⟨M15, ⟨he, ht, hh, hn64⟩⟩
     subst eL13
     refine WC.env [(3, _), (5, _), (6, _), (7, _), (8, _), (9, _), (10, _)] rfl ?_
     refine WC.seq ?_
     refine WC.seq ?_
     refine WC.run ?_
     refine WS.op rfl rfl ?_
     refine WS.gtrN (a := n) (b := 0) rfl rfl rfl (fun e22 => ?_) (fun e22 => ?_)
     ·
      refine WS.nil [(3, _), (5, _), (6, _), (7, _), (8, _), (9, _), (10, _), (22, _)] rfl ?_
      refine WC.condT rfl ?_
      refine WC.skip ?_
      refine WC.seq ?_
      refine WC.block ?_
      refine WC.seq ?_
      refine WC.run ?_
      have hpos : 1 ≤ a := by rw [hi_pos (by omega)] at hh; simp at hh; omega
      refine WS.op rfl rfl (WS.opV (.int .i64 (((a - 1) : Nat) : Int)) rfl rfl (sub_i64 (a := a) (b := 1) (by omega)) (WS.op rfl rfl (WS.nil [(3, _), (5, _), (6, _), (7, _), (8, _), (9, _), (10, _)] rfl ?_)))
      refine WC.run ?_
      refine WS.op rfl rfl (WS.op rfl rfl (WS.opV (.int .u64 ((n % 128 : Nat) : Int)) rfl rfl (low_u64 (by omega)) (WS.opV (.int .u8 ((UInt8.ofNat (n % 128)).toNat : Int)) rfl rfl u8_ofNat (WS.opV (.int .u8 ((UInt8.ofNat (128 + n % 128)).toNat : Int)) rfl rfl (or128 (by omega)) (WS.op rfl (op_iaA1 (a - 1) rfl rfl (by omega)) ?_)))))
      refine WS.st1 (M15.focus 0 rfl) [_] (arr (a - 1) (UInt8.ofNat (128 + n % 128) :: t)) rfl rfl rfl rfl rfl (Nat.le_of_ble_eq_true rfl) (by simp only [arr_len, List.length_singleton]; omega) rfl (by rw [← arr_set _ (by omega)]; rfl) ?_
      intro h16 M17
      refine WS.nil [(3, _), (5, _), (6, _), (7, _), (8, _), (9, _), (10, _)] rfl ?_
      refine WC.run ?_
      refine WS.op rfl rfl (WS.opV (.int .u64 ((n / 128 : Nat) : Int)) rfl rfl (shr7 n) (WS.op rfl rfl (WS.nil [(3, _), (5, _), (6, _), (7, _), (8, _), (9, _), (10, _)] rfl ?_)))
      refine ⟨(n / 128, a - 1, UInt8.ofNat (128 + n % 128) :: t), rfl, ⟨(((M17.bare.focus 1 rfl).focus 1 rfl).take 2), ?_⟩, ?_⟩
      · exact ⟨by rw [he, hi_pos (by omega)]; simp, by simp; omega, by rw [hi_pos (by omega)] at hh; simp at hh; omega, by omega⟩
      · simp only []; omega
     ·
      refine WS.nil [(3, _), (5, _), (6, _), (7, _), (8, _), (9, _), (10, _), (22, _)] rfl ?_
      refine WC.condF rfl ?_
      refine WC.exit ?_
      refine WC.run ?_
      have hnil : n = 0 := by omega
      have htl : t.length = (vb x).length := by rw [he, hnil, hi_zero]; rfl
      have hfs2 := congrArg List.length hfs
      rw [List.length_append] at hfs2
      refine WS.op rfl rfl (WS.op rfl rfl (WS.op rfl (op_slA0 a rfl rfl (by omega)) ?_))
      refine WS.app (l := (ns.take i).flatMap vb) (m := t) (hO) (M15.focus 1 rfl) (src_arr (M15.at 0 rfl) (by omega)) rfl (by omega) (by omega) rfl rfl rfl ?_
      intro V18 S19 h20 O21 M22
      replace O21 : Row.Own KU8 V18 ((ns.take (i + 1)).flatMap vb) S19 := by rw [hfs, he, hnil, hi_zero]; exact O21
      obtain ⟨P23, rfl⟩ := Row.Own.shape O21
      refine WS.op rfl rfl (WS.nil [(3, _), (8, _), (9, _), (10, _)] rfl ?_)
      refine WC.run ?_
      refine WS.opV (.int .i64 (((i + 1) : Nat) : Int)) rfl rfl (add_i64 (a := i) (b := 1) (by omega)) (WS.op rfl rfl (WS.nil [(3, _), (8, _), (9, _), (10, _)] rfl ?_))
      refine ⟨((.slice P23 ((ns.take (i + 1)).flatMap vb).length (2 * ((ns.take (i + 1)).flatMap vb).length)), S19, i + 1), rfl, ⟨((M22.bare.focus 0 rfl).take 1), ?_⟩, ?_⟩
      · exact ⟨by assumption, by omega⟩
      · simp only [] at *; omega
   ·
    refine WS.nil [(3, _), (8, _), (9, _), (10, _), (11, _)] rfl ?_
    refine WC.seq ?_
    refine WC.condF rfl ?_
    refine WC.exit ?_
    refine WC.seq ?_
    refine WC.run ?_
    refine WS.op rfl rfl (WS.op rfl (op_cvBO hO (Mem.owni M5 0 rfl) rfl) (WS.op rfl rfl (WS.nil [(2, _)] rfl ?_)))
    refine WC.ret ?_
    refine ⟨[_], (res_tmp rfl res_nil), ?_⟩
    exact ⟨by rw [← hr, ← flatMap_take_all (l := ns) (i := i) vb (by omega)]; rfl, M5.bare.take 0⟩
theorem flatMap_part {α β : Type} {l : List α} {i : Nat} {y : α} (f : α → List β) (h : l[i]? = some y) : ((l.take i).flatMap f).length + (f y).length ≤ (l.flatMap f).length := by
  have := flatMap_take_le l (i + 1) f
  rw [flatMap_take_succ f h, List.length_append] at this; exact this
set_option maxRecDepth 4000 in
theorem num_S_ran {h : H} (W : Mem h h [] []) {V0 : Value} {ss : List (List UInt8)} (A : KStr.Sl h V0 ss) (hl3 : (ss.map List.length).sum + 10 * ss.length ≤ 1099511627776) {r : List UInt8} (hr : ss.flatMap sb = r) : Cll tab0 101 [V0] h (fun v h2 => v = .string (bs r) ∧ Mem h h2 [] []) := by
  have hl := flatMap_sb_len ss hl3
  refine Cll.code rfl rfl ?_
  refine WC.env [(0, _)] rfl ?_
  refine WC.seq ?_
  refine WC.run ?_
  refine WS.op rfl rfl (WS.nil [(0, _)] rfl ?_)
  refine WC.seq ?_
  refine WC.run ?_
  refine WS.op rfl rfl (WS.nil [(0, _), (3, _)] rfl ?_)
  refine WC.seq ?_
  refine WC.seq ?_
  refine WC.run ?_
  refine WS.op rfl rfl (WS.op rfl (op_lenVS A rfl) (WS.op rfl rfl (WS.nil [(3, _), (6, _), (7, _), (8, _)] rfl ?_)))
  refine WC.block ?_
  obtain ⟨L1, eL3, M2⟩ := Mem.name W.bare
  refine WC.loop (σ := List UInt8 × Nat) (fun ((out, i)) => [(3, (.string (bs out))), (6, V0), (7, (.int .i64 (((ss).length : Nat) : Int))), (8, (.int .i64 ((i : Nat) : Int)))]) (fun ((out, i)) hh => Mem h hh (L1) [] ∧ out = (ss.take i).flatMap sb ∧ i ≤ ss.length) (fun ((out, i)) => ss.length - i) ([], 0) rfl ⟨M2, ?_⟩ ?_
  · exact ⟨rfl, by omega⟩
  ·rintro ⟨out, i⟩ h4 ⟨M5, ⟨hO, hi1⟩⟩
   subst eL3
   refine WC.env [(3, _), (6, _), (7, _), (8, _)] rfl ?_
   refine WC.seq ?_
   refine WC.run ?_
   refine WS.lssN (a := i) (b := (ss).length) rfl rfl rfl (fun e9 => ?_) (fun e9 => ?_)
   ·
    refine WS.nil [(3, _), (6, _), (7, _), (8, _), (9, _)] rfl ?_
    refine WC.seq ?_
    refine WC.condT rfl ?_
    refine WC.skip ?_
    refine WC.seq ?_
    refine WC.block ?_
    refine WC.seq ?_
    refine WC.run ?_
    obtain ⟨x, hy⟩ : ∃ x, ss[i]? = some x := ⟨_, List.getElem?_eq_getElem (show i < ss.length by omega)⟩
    have hfp := flatMap_part sb hy
    have hsl : (sb x).length = (vb x.length).length + x.length := by simp [sb]
    refine WS.iaVS A i hy rfl rfl rfl rfl ?_
    intro bx ox hx
    refine WS.op rfl (op_ldH rfl (At.ld0 (hx.mono M5.sub) rfl)) (WS.op rfl rfl (WS.nil [(3, _), (5, _), (6, _), (7, _), (8, _)] rfl ?_))
    refine WC.run ?_
    refine WS.op rfl rfl (WS.op rfl rfl (WS.op rfl (op_lenS (l := x) rfl) (WS.opV (.int .u64 (((x).length : Nat) : Int)) rfl rfl (cv_u64 (n := (x).length) (by omega)) ?_)))
    refine WS.bsl M5 [_] rfl rfl rfl rfl ?_
    intro p6 h7 M8
    refine WS.call rfl rfl rfl (num_V_ran M8.here (Row.Sl.own (K := KNat) (l := [(x).length]) (M8.at 0 rfl)) (by intro n hn; simp only [List.mem_cons, List.mem_nil_iff, or_false] at hn; omega) (by simp) (r := (vb ((x).length))) (by simp [List.flatMap])) ?_
    rintro _ h9 ⟨rfl, N10⟩
    have M11 := M8.trans N10
    refine WS.op rfl rfl (WS.op rfl (op_sadd (l := (vb ((x).length))) (m := x) rfl rfl (by have := congrArg List.length hO; (try simp only [List.length_append]); omega)) (WS.op rfl (op_sadd (l := out) (m := ((vb ((x).length)) ++ x)) rfl rfl (by have := congrArg List.length hO; (try simp only [List.length_append]); omega)) (WS.op rfl rfl (WS.nil [(3, _), (6, _), (7, _), (8, _)] rfl ?_))))
    refine WC.run ?_
    refine WS.opV (.int .i64 (((i + 1) : Nat) : Int)) rfl rfl (add_i64 (a := i) (b := 1) (by omega)) (WS.op rfl rfl (WS.nil [(3, _), (6, _), (7, _), (8, _)] rfl ?_))
    refine ⟨(out ++ (vb x.length ++ x), i + 1), rfl, ⟨(M11.bare.take 0), ?_⟩, ?_⟩
    · exact ⟨by rw [hO, flatMap_take_succ sb hy]; rfl, by omega⟩
    · simp only [] at *; omega
   ·
    refine WS.nil [(3, _), (6, _), (7, _), (8, _), (9, _)] rfl ?_
    refine WC.seq ?_
    refine WC.condF rfl ?_
    refine WC.exit ?_
    refine WC.seq ?_
    refine WC.run ?_
    refine WS.op rfl rfl (WS.op rfl rfl (WS.nil [(2, _)] rfl ?_))
    refine WC.ret ?_
    refine ⟨[_], (res_tmp rfl res_nil), ?_⟩
    exact ⟨by rw [← hr, hO, flatMap_take_all (l := ss) (i := i) sb (by omega)]; rfl, M5.bare.take 0⟩
def rsV (l : List UInt8) : Value := .tuple #[.string (bs (rsT l)), .int .i64 (rsK l : Int), .bool (rsOK l)]
theorem rsV_none {l : List UInt8} (h : getS l = none) : rsV l = .tuple #[.string (bs []), .int .i64 0, .bool false] := by
  obtain ⟨e1, e2, e3⟩ := rs_eq_none h; simp only [rsV, e1, e2, e3]; rfl
theorem rsV_some {l t : List UInt8} {k : Nat} (h : getS l = some (t, k)) : rsV l = .tuple #[.string (bs t), .int .i64 (k : Int), .bool true] := by
  obtain ⟨e1, e2, e3⟩ := rs_eq_some h; simp only [rsV, e1, e2, e3]
theorem getS_no {l : List UInt8} (h : rvOK l = false) : getS l = none := by
  unfold getS; rw [getV_eq, h]; rfl
theorem getS_far {l : List UInt8} (h : l.length - rvK l < rvN l) : getS l = none := by
  unfold getS; rw [getV_eq]; cases rvOK l
  · rfl
  · simp only [if_true]; rw [if_neg (by omega)]
theorem getS_yes {l : List UInt8} (h : rvOK l = true) (h2 : rvN l ≤ l.length - rvK l) : getS l = some ((l.take (rvK l + rvN l)).drop (rvK l), rvK l + rvN l) := by
  unfold getS; rw [getV_eq, h]; simp only [if_true]; rw [if_pos h2, List.drop_take, Nat.add_sub_cancel_left]
theorem num_ReadS_ran {h : H} (W : Mem h h [] []) {l : List UInt8} (hl : l.length < 9223372036854775808) : Cll tab0 107 [.string (bs l)] h (fun v h2 => v = rsV l ∧ Mem h h2 [] []) := by
  have hk := rvK_le l
  have hn64 := rvN_lt l
  refine Cll.code rfl rfl ?_
  refine WC.env [(0, _)] rfl ?_
  refine WC.seq ?_
  refine WC.run ?_
  refine WS.op rfl rfl (WS.op rfl rfl (WS.op rfl rfl (WS.nil [(0, _)] rfl ?_)))
  refine WC.seq ?_
  refine WC.run ?_
  refine WS.op rfl rfl ?_
  refine WS.call rfl rfl rfl (num_ReadV_ran W.here (l := l) (by first | omega | (simp only [List.length_drop, List.length_take, List.length_append, List.length_cons, List.length_nil, List.length_singleton]; omega) | (simp only [List.length_drop, List.length_take, List.length_append, List.length_cons, List.length_nil, List.length_singleton] at *; omega))) ?_
  rintro _ h1 ⟨rfl, N2⟩
  have M3 := W.trans N2
  refine WS.op rfl rfl (WS.op rfl rfl (WS.op rfl rfl (WS.op rfl rfl (WS.op rfl rfl (WS.op rfl rfl (WS.op rfl rfl (WS.nil [(0, _), (4, _), (5, _), (6, _)] rfl ?_)))))))
  refine WC.seq ?_
  refine WC.seq ?_
  refine WC.run ?_
  refine WS.op rfl rfl ?_
  cases hb1 : (rvOK l)
  ·
   refine WS.opV (.bool true) rfl rfl rfl (WS.op rfl rfl (WS.off rfl (WS.off rfl (WS.off rfl (WS.off rfl (WS.off rfl (WS.off rfl (WS.off rfl (WS.op rfl rfl ?_)))))))))
   refine WS.nil [(0, _), (5, _), (6, _), (23, _)] rfl ?_
   refine WC.condT rfl ?_
   refine WC.seq ?_
   refine WC.run ?_
   refine WS.op rfl rfl (WS.op rfl rfl (WS.op rfl rfl (WS.nil [(2, _), (3, _), (4, _)] rfl ?_)))
   refine WC.ret ?_
   refine ⟨[_, _, _], (res_tmp rfl (res_tmp rfl (res_tmp rfl res_nil))), ?_⟩
   exact ⟨by rw [rsV_none (getS_no hb1)]; rfl, M3.bare.take 0⟩
  ·
   refine WS.opV (.bool false) rfl rfl rfl (WS.op rfl rfl (WS.op rfl rfl (WS.op rfl rfl (WS.op rfl (op_lenS (l := l) rfl) (WS.op rfl rfl (WS.opV (.int .i64 ((((l).length - (rvK l)) : Nat) : Int)) rfl rfl (sub_i64 (a := (l).length) (b := (rvK l)) (by have := rvK_le l; omega)) (WS.opV (.int .u64 ((((l).length - (rvK l)) : Nat) : Int)) rfl rfl (cv_u64 (n := ((l).length - (rvK l))) (by omega)) ?_)))))))
   refine WS.gtrN (a := (rvN l)) (b := ((l).length - (rvK l))) rfl rfl rfl (fun e22 => ?_) (fun e22 => ?_)
   ·
    refine WS.op rfl rfl (WS.nil [(0, _), (5, _), (6, _), (23, _)] rfl ?_)
    refine WC.condT rfl ?_
    refine WC.seq ?_
    refine WC.run ?_
    refine WS.op rfl rfl (WS.op rfl rfl (WS.op rfl rfl (WS.nil [(2, _), (3, _), (4, _)] rfl ?_)))
    refine WC.ret ?_
    refine ⟨[_, _, _], (res_tmp rfl (res_tmp rfl (res_tmp rfl res_nil))), ?_⟩
    exact ⟨by rw [rsV_none (getS_far (by omega))]; rfl, M3.bare.take 0⟩
   ·
    refine WS.op rfl rfl (WS.nil [(0, _), (5, _), (6, _), (23, _)] rfl ?_)
    refine WC.condF rfl ?_
    refine WC.skip ?_
    refine WC.seq ?_
    refine WC.run ?_
    refine WS.op rfl rfl (WS.op rfl rfl (WS.op rfl rfl (WS.op rfl rfl (WS.opV (.int .i64 (((rvN l) : Nat) : Int)) rfl rfl (cv_i64 (n := (rvN l)) (by have := rvN_lt l; omega)) (WS.opV (.int .i64 ((((rvK l) + (rvN l)) : Nat) : Int)) rfl rfl (add_i64 (a := (rvK l)) (b := (rvN l)) (by have := rvK_le l; have := rvN_lt l; omega)) (WS.op rfl (op_slS2 (l := l) (rvK l) ((rvK l) + (rvN l)) rfl rfl rfl (by first | omega | (simp only [List.length_drop, List.length_take, List.length_append, List.length_cons, List.length_nil, List.length_singleton]; omega) | (simp only [List.length_drop, List.length_take, List.length_append, List.length_cons, List.length_nil, List.length_singleton] at *; omega)) (by first | omega | (simp only [List.length_drop, List.length_take, List.length_append, List.length_cons, List.length_nil, List.length_singleton]; omega) | (simp only [List.length_drop, List.length_take, List.length_append, List.length_cons, List.length_nil, List.length_singleton] at *; omega))) (WS.op rfl rfl (WS.op rfl rfl (WS.opV (.int .i64 (((rvN l) : Nat) : Int)) rfl rfl (cv_i64 (n := (rvN l)) (by have := rvN_lt l; omega)) ?_)))))))))
    refine WS.opV (.int .i64 ((((rvK l) + (rvN l)) : Nat) : Int)) rfl rfl (add_i64 (a := (rvK l)) (b := (rvN l)) (by have := rvK_le l; have := rvN_lt l; omega)) (WS.op rfl rfl (WS.op rfl rfl (WS.op rfl rfl (WS.nil [(2, _), (3, _), (4, _)] rfl ?_))))
    refine WC.ret ?_
    refine ⟨[_, _, _], (res_tmp rfl (res_tmp rfl (res_tmp rfl res_nil))), ?_⟩
    exact ⟨by rw [rsV_some (getS_yes hb1 (by omega))]; rfl, M3.bare.take 0⟩
def val (t : List UInt8) : Nat := t.foldl (fun n c => 128 * n + c.toNat % 128) 0
end Go.Proofs.Yteikngjiaboeaaa.Wt
namespace Go.Proofs.Yteikngjiaboeaaa.Wt
open Go Go.Proofs.Yteikngjiaboeaaa.Am Go.Proofs.Yteikngjiaboeaaa.IrAll
set_option linter.unusedVariables false
set_option linter.unusedSimpArgs false
theorem u8_inj {a b : UInt8} (h : a.toNat = b.toNat) : a = b := UInt8.toNat_inj.1 h
theorem u64_inj {a b : UInt64} (h : a.toNat = b.toNat) : a = b := UInt64.toNat_inj.1 h
structure Part where
  op : UInt8
  ky : List UInt8
  va : List UInt8
  deriving DecidableEq
def Part.cells (x : Part) : List Value := [(.int .u8 (((x.op).toNat : Nat) : Int)), (.string (bs x.ky)), (.string (bs x.va))]
def KPart : Row Part := ⟨Part.cells, 3, fun _ => rfl, by decide, fun _ => rfl⟩
theorem Part_eqV (x y : Part) : eqV (.agg [(0, 1), (1, 2), (2, 2)]) (.agg (Part.cells x).toArray) (.agg (Part.cells y).toArray) = some (decide (x = y)) := by
  have e : eqV (.agg [(0, 1), (1, 2), (2, 2)]) (.agg (Part.cells x).toArray) (.agg (Part.cells y).toArray) = some (((((x.op.toNat : Nat) : Int) == ((y.op.toNat : Nat) : Int)) && (((bs x.ky).toList == (bs y.ky).toList) && (((bs x.va).toList == (bs y.va).toList) && true)))) := rfl
  rw [e]; congr 1
  rw [Bool.eq_iff_iff]
  simp only [Bool.and_eq_true, beq_iff_eq, bs_toList, decide_eq_true_eq, Bool.and_true, and_true]
  constructor
  · intro h
    obtain ⟨h0, h1, h2⟩ := h
    obtain ⟨⟩ := x; obtain ⟨⟩ := y
    simp only at *
    rw [u8_inj (Int.ofNat.inj h0), h1, h2]
  · intro h; subst h; exact ⟨rfl, rfl, rfl⟩
structure Cmd where
  op : UInt8
  se : UInt64
  sq : UInt64
  ky : List UInt8
  va : List UInt8
  ex : List UInt8
  fr : List UInt8
  to : List UInt8
  li : UInt8
  le : UInt64
  tt : UInt64
  ps : List Part
  deriving DecidableEq
def Cmd.cells (c : Cmd) (V : Value) : List Value := [(.int .u8 (((c.op).toNat : Nat) : Int)), (.int .u64 (((c.se).toNat : Nat) : Int)), (.int .u64 (((c.sq).toNat : Nat) : Int)), (.string (bs c.ky)), (.string (bs c.va)), (.string (bs c.ex)), (.string (bs c.fr)), (.string (bs c.to)), (.int .u8 (((c.li).toNat : Nat) : Int)), (.int .u64 (((c.le).toNat : Nat) : Int)), (.int .u64 (((c.tt).toNat : Nat) : Int)), V]
def Cmd.val (c : Cmd) (V : Value) : Value := .agg (c.cells V).toArray
variable {h base : H} {L : List Seg} {R : List Nat}
def FitP (ps : List Part) : Prop := ∀ p ∈ ps, p.ky.length ≤ 300000 ∧ p.va.length ≤ 300000
def Fit (c : Cmd) : Prop := c.ky.length ≤ 300000 ∧ c.va.length ≤ 300000 ∧ c.ex.length ≤ 300000 ∧ c.fr.length ≤ 300000 ∧ c.to.length ≤ 300000 ∧ c.ps.length ≤ 300 ∧ FitP c.ps
def TightP (ps : List Part) : Prop := ∀ p ∈ ps, p.ky.length ≤ 3000 ∧ p.va.length ≤ 3000
def TightC (c : Cmd) : Prop := c.ky.length ≤ 3000 ∧ c.va.length ≤ 3000 ∧ c.ex.length ≤ 3000 ∧ c.fr.length ≤ 3000 ∧ c.to.length ≤ 3000 ∧ c.ps.length ≤ 40 ∧ TightP c.ps
theorem TightC.fit {c : Cmd} (h : TightC c) : Fit c := by
  obtain ⟨h1, h2, h3, h4, h5, h6, h7⟩ := h
  exact ⟨by omega, by omega, by omega, by omega, by omega, by omega, fun p hp => by have := h7 p hp; omega⟩
theorem TightP_snoc {es : List Part} {i : Nat} {y : Part} (h : TightP (es.take i)) (hy : es[i]? = some y) (hr : y.ky.length ≤ 3000 ∧ y.va.length ≤ 3000) : TightP (es.take (i + 1)) := by
  intro e he
  rw [List.take_add_one, hy] at he
  simp only [Option.toList_some, List.mem_append, List.mem_singleton] at he
  rcases he with he | he
  · exact h e he
  · subst he; exact hr
theorem Great_ran (W : Mem h h [] []) {c : Cmd} {V : Value} (A : KPart.Sl h V c.ps) (hl : c.ky.length < 9223372036854775808 ∧ c.va.length < 9223372036854775808 ∧ c.ex.length < 9223372036854775808 ∧ c.fr.length < 9223372036854775808 ∧ c.to.length < 9223372036854775808 ∧ c.ps.length < 9223372036854775808 ∧ ∀ p ∈ c.ps, p.ky.length < 9223372036854775808 ∧ p.va.length < 9223372036854775808) : Cll tab0 36 [c.val V] h (fun v h2 => (∃ g, v = .bool g ∧ (g = false → Fit c ∧ TightC c)) ∧ Mem h h2 [] []) := by
  obtain ⟨P, n, rfl⟩ := A.shape
  obtain ⟨l1, l2, l3, l4, l5, l6, l7⟩ := hl
  refine Cll.code rfl rfl ?_
  refine WC.env [(0, _)] rfl ?_
  refine WC.seq ?_
  refine WC.run ?_
  refine WS.box W [_, _, _, _, _, _, _, _, _, _, _, _] rfl rfl rfl rfl ?_
  intro p1 h2 M3
  refine WS.op rfl rfl (WS.nil [(1, _)] rfl ?_)
  refine WC.seq ?_
  refine WC.seq ?_
  obtain ⟨L4, eL6, M5⟩ := Mem.name M3.bare
  refine WC.joinB (base := h) (fun b => [(1, (.pointer (some ⟨p1, 0, none⟩))), (37, .bool b)]) L4 (True) (c.ky.length ≤ 3000 ∧ c.va.length ≤ 3000 ∧ c.ex.length ≤ 3000 ∧ c.fr.length ≤ 3000 ∧ c.to.length ≤ 3000 ∧ c.ps.length ≤ 40) ?_ ?_ ?_
  ·subst eL6
   refine WS.op rfl rfl (WS.op rfl (op_ld (M5.at 0 rfl) rfl rfl) (WS.op rfl (op_lenS (l := c.ky) rfl) ?_))
   refine WS.gtrN (a := (c.ky).length) (b := 3000) rfl rfl rfl (fun e7 => ?_) (fun e7 => ?_)
   ·
    refine WS.op rfl rfl (WS.off rfl (WS.off rfl (WS.off rfl (WS.off rfl (WS.op rfl rfl (WS.op rfl rfl (WS.off rfl (WS.off rfl (WS.off rfl ?_)))))))))
    refine WS.off rfl (WS.op rfl rfl (WS.op rfl rfl (WS.off rfl (WS.off rfl (WS.off rfl (WS.off rfl (WS.op rfl rfl (WS.op rfl rfl (WS.off rfl ?_)))))))))
    refine WS.off rfl (WS.off rfl (WS.off rfl (WS.op rfl rfl (WS.op rfl rfl (WS.off rfl (WS.off rfl (WS.off rfl (WS.off rfl (WS.op rfl rfl ?_)))))))))
    refine WS.nil' ⟨true, rfl, ((M5.bare.focus 0 rfl).take 1), fun _ => ?_, fun hh => ?_⟩
    · trivial
    · cases hh
   ·
    refine WS.op rfl rfl (WS.op rfl rfl (WS.op rfl (op_ld (M5.at 0 rfl) rfl rfl) (WS.op rfl (op_lenS (l := c.va) rfl) ?_)))
    refine WS.gtrN (a := (c.va).length) (b := 3000) rfl rfl rfl (fun e12 => ?_) (fun e12 => ?_)
    ·
     refine WS.op rfl rfl (WS.op rfl rfl (WS.off rfl (WS.off rfl (WS.off rfl (WS.off rfl (WS.op rfl rfl (WS.op rfl rfl (WS.off rfl (WS.off rfl ?_)))))))))
     refine WS.off rfl (WS.off rfl (WS.op rfl rfl (WS.op rfl rfl (WS.off rfl (WS.off rfl (WS.off rfl (WS.off rfl (WS.op rfl rfl (WS.op rfl rfl ?_)))))))))
     refine WS.off rfl (WS.off rfl (WS.off rfl (WS.off rfl (WS.op rfl rfl ?_))))
     refine WS.nil' ⟨true, rfl, ((M5.bare.focus 0 rfl).take 1), fun _ => ?_, fun hh => ?_⟩
     · trivial
     · cases hh
    ·
     refine WS.op rfl rfl (WS.op rfl rfl (WS.op rfl rfl (WS.op rfl (op_ld (M5.at 0 rfl) rfl rfl) (WS.op rfl (op_lenS (l := c.ex) rfl) ?_))))
     refine WS.gtrN (a := (c.ex).length) (b := 3000) rfl rfl rfl (fun e18 => ?_) (fun e18 => ?_)
     ·
      refine WS.op rfl rfl (WS.op rfl rfl (WS.off rfl (WS.off rfl (WS.off rfl (WS.off rfl (WS.op rfl rfl (WS.op rfl rfl (WS.off rfl (WS.off rfl ?_)))))))))
      refine WS.off rfl (WS.off rfl (WS.op rfl rfl (WS.op rfl rfl (WS.off rfl (WS.off rfl (WS.off rfl (WS.off rfl (WS.op rfl rfl ?_))))))))
      refine WS.nil' ⟨true, rfl, ((M5.bare.focus 0 rfl).take 1), fun _ => ?_, fun hh => ?_⟩
      · trivial
      · cases hh
     ·
      refine WS.op rfl rfl (WS.op rfl rfl (WS.op rfl rfl (WS.op rfl (op_ld (M5.at 0 rfl) rfl rfl) (WS.op rfl (op_lenS (l := c.fr) rfl) ?_))))
      refine WS.gtrN (a := (c.fr).length) (b := 3000) rfl rfl rfl (fun e24 => ?_) (fun e24 => ?_)
      ·
       refine WS.op rfl rfl (WS.op rfl rfl (WS.off rfl (WS.off rfl (WS.off rfl (WS.off rfl (WS.op rfl rfl (WS.op rfl rfl (WS.off rfl (WS.off rfl ?_)))))))))
       refine WS.off rfl (WS.off rfl (WS.op rfl rfl ?_))
       refine WS.nil' ⟨true, rfl, ((M5.bare.focus 0 rfl).take 1), fun _ => ?_, fun hh => ?_⟩
       · trivial
       · cases hh
      ·
       refine WS.op rfl rfl (WS.op rfl rfl (WS.op rfl rfl (WS.op rfl (op_ld (M5.at 0 rfl) rfl rfl) (WS.op rfl (op_lenS (l := c.to) rfl) ?_))))
       refine WS.gtrN (a := (c.to).length) (b := 3000) rfl rfl rfl (fun e30 => ?_) (fun e30 => ?_)
       ·
        refine WS.op rfl rfl (WS.op rfl rfl (WS.off rfl (WS.off rfl (WS.off rfl (WS.off rfl (WS.op rfl rfl ?_))))))
        refine WS.nil' ⟨true, rfl, ((M5.bare.focus 0 rfl).take 1), fun _ => ?_, fun hh => ?_⟩
        · trivial
        · cases hh
       ·
        refine WS.op rfl rfl (WS.op rfl rfl (WS.op rfl rfl (WS.op rfl (op_ld (M5.at 0 rfl) rfl rfl) (WS.op rfl (op_lenVS A rfl) ?_))))
        refine WS.gtrN (a := (c.ps).length) (b := 40) rfl rfl rfl (fun e36 => ?_) (fun e36 => ?_)
        ·
         refine WS.op rfl rfl ?_
         refine WS.nil' ⟨true, rfl, ((M5.bare.focus 0 rfl).take 1), fun _ => ?_, fun hh => ?_⟩
         · trivial
         · cases hh
        ·
         refine WS.op rfl rfl ?_
         refine WS.nil' ⟨false, rfl, ((M5.bare.focus 0 rfl).take 1), fun hh => ?_, fun _ => ?_⟩
         · cases hh
         · omega
  ·intro h7 M8 hp37
   subst eL6
   refine WC.condT rfl ?_
   refine WC.seq ?_
   refine WC.run ?_
   refine WS.op rfl rfl (WS.nil [(2, _)] rfl ?_)
   refine WC.ret ?_
   refine ⟨[_], (res_tmp rfl res_nil), ?_⟩
   exact ⟨⟨true, rfl, fun q => by cases q⟩, M8.bare.take 0⟩
  ·intro h9 M10 hp37
   subst eL6
   refine WC.condF rfl ?_
   refine WC.skip ?_
   refine WC.seq ?_
   refine WC.seq ?_
   refine WC.run ?_
   refine WS.op rfl rfl (WS.nil [(1, _), (3, _)] rfl ?_)
   refine WC.block ?_
   obtain ⟨L11, eL13, M12⟩ := Mem.name M10.bare
   refine WC.loop (σ := Nat) (fun (i) => [(1, (.pointer (some ⟨p1, 0, none⟩))), (3, (.int .i64 ((i : Nat) : Int)))]) (fun (i) hh => Mem h hh (L11) [] ∧ TightP (c.ps.take i) ∧ i ≤ c.ps.length) (fun (i) => c.ps.length - i) (0) rfl ⟨M12, ?_⟩ ?_
   · exact ⟨by intro x hx; simp at hx, by omega⟩
   ·rintro i h14 ⟨M15, ⟨hO, hi1⟩⟩
    subst eL13
    refine WC.env [(1, _), (3, _)] rfl ?_
    refine WC.seq ?_
    refine WC.seq ?_
    refine WC.run ?_
    refine WS.op rfl rfl (WS.op rfl rfl (WS.op rfl (op_ld (M15.at 0 rfl) rfl rfl) (WS.op rfl (op_lenVS A rfl) ?_)))
    refine WS.lssN (a := i) (b := (c.ps).length) rfl rfl rfl (fun e42 => ?_) (fun e42 => ?_)
    ·
     refine WS.nil [(1, _), (3, _), (42, _)] rfl ?_
     refine WC.condT rfl ?_
     refine WC.skip ?_
     refine WC.seq ?_
     refine WC.block ?_
     refine WC.seq ?_
     refine WC.run ?_
     refine WS.op rfl rfl (WS.op rfl (op_ld (M15.at 0 rfl) rfl rfl) (WS.op rfl rfl ?_))
     obtain ⟨y48, hy48⟩ : ∃ y, (c.ps)[i]? = some y := ⟨_, List.getElem?_eq_getElem (show i < (c.ps).length by first | omega | (simp only [List.length_drop, List.length_take, List.length_append, List.length_cons, List.length_nil, List.length_singleton]; omega) | (simp only [List.length_drop, List.length_take, List.length_append, List.length_cons, List.length_nil, List.length_singleton] at *; omega))⟩
     refine WS.iaVS A i hy48 rfl rfl rfl rfl ?_
     intro b48_ o48_ ha48
     refine WS.op rfl rfl (WS.op rfl (op_ldH rfl (At.ld (ha48.mono M15.sub) rfl)) (WS.op rfl (op_lenS (l := y48.ky) rfl) ?_))
     refine WS.gtrN (a := (y48.ky).length) (b := 3000) rfl rfl rfl (fun e52 => ?_) (fun e52 => ?_)
     ·
      refine WS.op rfl rfl (WS.off rfl (WS.off rfl (WS.off rfl (WS.off rfl (WS.off rfl (WS.off rfl (WS.off rfl (WS.off rfl (WS.op rfl rfl ?_)))))))))
      refine WS.nil [(1, _), (3, _), (62, _)] rfl ?_
      refine WC.condT rfl ?_
      refine WC.seq ?_
      refine WC.run ?_
      refine WS.op rfl rfl (WS.nil [(2, _)] rfl ?_)
      refine WC.ret ?_
      refine ⟨[_], (res_tmp rfl res_nil), ?_⟩
      exact ⟨⟨true, rfl, fun q => by cases q⟩, M15.bare.take 0⟩
     ·
      refine WS.op rfl rfl (WS.op rfl rfl (WS.op rfl (op_ld (M15.at 0 rfl) rfl rfl) (WS.op rfl rfl ?_)))
      refine WS.iaVS A i hy48 rfl rfl rfl rfl ?_
      intro b57_ o57_ ha57
      refine WS.op rfl rfl (WS.op rfl (op_ldH rfl (At.ld (ha57.mono M15.sub) rfl)) (WS.op rfl (op_lenS (l := y48.va) rfl) ?_))
      refine WS.gtrN (a := (y48.va).length) (b := 3000) rfl rfl rfl (fun e61 => ?_) (fun e61 => ?_)
      ·
       refine WS.op rfl rfl (WS.nil [(1, _), (3, _), (62, _)] rfl ?_)
       refine WC.condT rfl ?_
       refine WC.seq ?_
       refine WC.run ?_
       refine WS.op rfl rfl (WS.nil [(2, _)] rfl ?_)
       refine WC.ret ?_
       refine ⟨[_], (res_tmp rfl res_nil), ?_⟩
       exact ⟨⟨true, rfl, fun q => by cases q⟩, M15.bare.take 0⟩
      ·
       refine WS.op rfl rfl (WS.nil [(1, _), (3, _), (62, _)] rfl ?_)
       refine WC.condF rfl ?_
       refine WC.skip ?_
       refine WC.run ?_
       refine WS.op rfl rfl (WS.opV (.int .i64 (((i + 1) : Nat) : Int)) rfl rfl (add_i64 (a := i) (b := 1) (by omega)) (WS.op rfl rfl (WS.nil [(1, _), (3, _)] rfl ?_)))
       refine ⟨i + 1, rfl, ⟨((M15.bare.focus 0 rfl).take 1), ?_⟩, ?_⟩
       · exact ⟨TightP_snoc hO hy48 ⟨by omega, by omega⟩, by omega⟩
       · simp only []; omega
    ·
     refine WS.nil [(1, _), (3, _), (42, _)] rfl ?_
     refine WC.condF rfl ?_
     refine WC.exit ?_
     refine WC.seq ?_
     refine WC.run ?_
     refine WS.op rfl rfl (WS.nil [(2, _)] rfl ?_)
     refine WC.ret ?_
     refine ⟨[_], (res_tmp rfl res_nil), ?_⟩
     rw [List.take_of_length_le (by omega)] at hO
     exact ⟨⟨false, rfl, fun _ => have ht : TightC c := ⟨hp37.1, hp37.2.1, hp37.2.2.1, hp37.2.2.2.1, hp37.2.2.2.2.1, hp37.2.2.2.2.2, hO⟩; ⟨ht.fit, ht⟩⟩, M15.bare.take 0⟩
def partB (p : Part) : List UInt8 := ([p.op] ++ sb p.ky) ++ (if p.op.toNat = 2 then sb p.va else [])
def blank (c : Cmd) : Cmd := ⟨c.op, c.se, c.sq, [], [], [], [], [], 0, 0, 0, []⟩
def plain (c : Cmd) : Cmd :=
  if c.op.toNat = 1 ∨ c.op.toNat = 6 then { blank c with tt := c.tt }
  else if c.op.toNat = 2 then { blank c with ky := c.ky, va := c.va, le := c.le }
  else if c.op.toNat = 3 ∨ c.op.toNat = 8 then { blank c with ky := c.ky }
  else if c.op.toNat = 4 then { blank c with ky := c.ky, ex := c.ex, va := c.va }
  else if c.op.toNat = 5 then { blank c with ps := c.ps }
  else if c.op.toNat = 7 then { blank c with le := c.le }
  else if c.op.toNat = 9 then { blank c with fr := c.fr, to := c.to, li := c.li }
  else blank c
def bodyB (c : Cmd) : List UInt8 :=
  if c.op.toNat = 1 ∨ c.op.toNat = 6 then vb c.tt.toNat
  else if c.op.toNat = 2 then (sb c.ky ++ sb c.va) ++ vb c.le.toNat
  else if c.op.toNat = 3 ∨ c.op.toNat = 8 then sb c.ky
  else if c.op.toNat = 4 then (sb c.ky ++ sb c.ex) ++ sb c.va
  else if c.op.toNat = 5 then [UInt8.ofNat c.ps.length] ++ c.ps.flatMap partB
  else if c.op.toNat = 7 then vb c.le.toNat
  else if c.op.toNat = 9 then (sb c.fr ++ sb c.to) ++ [c.li]
  else []
def headB (c : Cmd) : List UInt8 := ([c.op] ++ vb c.se.toNat) ++ vb c.sq.toNat
def encC (c : Cmd) : List UInt8 := headB c ++ bodyB c
section
variable {c : Cmd}
theorem enc_1 (h : c.op.toNat = 1 ∨ c.op.toNat = 6) : plain c = { blank c with tt := c.tt } ∧ bodyB c = vb c.tt.toNat := ⟨if_pos h, if_pos h⟩
theorem enc_2 (h : c.op.toNat = 2) : plain c = { blank c with ky := c.ky, va := c.va, le := c.le } ∧ bodyB c = (sb c.ky ++ sb c.va) ++ vb c.le.toNat := by unfold plain bodyB; simp [h]
theorem enc_3 (h : c.op.toNat = 3 ∨ c.op.toNat = 8) : plain c = { blank c with ky := c.ky } ∧ bodyB c = sb c.ky := by
  unfold plain bodyB; rw [if_neg (by omega), if_neg (by omega), if_pos h, if_neg (by omega), if_neg (by omega), if_pos h]; exact ⟨rfl, rfl⟩
theorem enc_4 (h : c.op.toNat = 4) : plain c = { blank c with ky := c.ky, ex := c.ex, va := c.va } ∧ bodyB c = (sb c.ky ++ sb c.ex) ++ sb c.va := by unfold plain bodyB; simp [h]
theorem enc_5 (h : c.op.toNat = 5) : plain c = { blank c with ps := c.ps } ∧ bodyB c = [UInt8.ofNat c.ps.length] ++ c.ps.flatMap partB := by unfold plain bodyB; simp [h]
theorem enc_7 (h : c.op.toNat = 7) : plain c = { blank c with le := c.le } ∧ bodyB c = vb c.le.toNat := by unfold plain bodyB; simp [h]
theorem enc_9 (h : c.op.toNat = 9) : plain c = { blank c with fr := c.fr, to := c.to, li := c.li } ∧ bodyB c = (sb c.fr ++ sb c.to) ++ [c.li] := by unfold plain bodyB; simp [h]
theorem enc_0 (h : ¬ (1 ≤ c.op.toNat ∧ c.op.toNat ≤ 9)) : plain c = blank c ∧ bodyB c = [] := by
  unfold plain bodyB; rw [if_neg (by omega), if_neg (by omega), if_neg (by omega), if_neg (by omega), if_neg (by omega), if_neg (by omega), if_neg (by omega), if_neg (by omega), if_neg (by omega), if_neg (by omega), if_neg (by omega), if_neg (by omega), if_neg (by omega), if_neg (by omega)]; exact ⟨rfl, rfl⟩
end
theorem sb_len3 {t : List UInt8} (h : t.length ≤ 300000) : (sb t).length ≤ 300010 := by have := sb_len (t := t) (by omega); omega
theorem partB_len {p : Part} (h : p.ky.length ≤ 300000 ∧ p.va.length ≤ 300000) : (partB p).length ≤ 600100 := by
  have := sb_len3 h.1; have := sb_len3 h.2
  unfold partB; split <;> simp <;> omega
end Go.Proofs.Yteikngjiaboeaaa.Wt
