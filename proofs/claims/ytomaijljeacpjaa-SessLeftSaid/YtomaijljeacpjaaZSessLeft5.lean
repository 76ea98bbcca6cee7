/- The law 'SessLeft' returns true for all arguments: what its proof stands on, part 5. -/
import Derived.Test.YtomaijljeacpjaaZSessLeft4
import Derived.Test.YtomaijljeacpjaaProg
import Derived.KernelRfl
namespace Go.Proofs.Ytomaijljeacpjaa.IrAll
open Go Go.Proofs.Ytomaijljeacpjaa.Am
def hi4 : List Hint := [.keep [0, 1], .keep [0, 1, 20], .keep [4], .keep [0, 1, 5], .keep [0, 1, 5, 6, 7], .keep [0, 1, 5, 6, 31], .keep [4], .keep [0, 1, 5, 6, 8], .keep [0, 1, 5, 6, 8], .keep [0, 1, 5, 6, 8, 35], .keep [0, 1, 5, 6, 8, 9], .keep [0, 1, 5, 6, 8, 9], .keep [0, 1, 5, 6, 8, 9, 44], .keep [0, 1, 5, 6, 8, 9], .keep [0, 1, 5, 6, 8, 9, 57], .keep [4], .keep [0, 1, 5, 6, 8, 9], .keep [0, 1, 5, 6, 7, 8], .keep [0, 1, 5, 6, 7, 8, 73], .keep [4], .keep [0, 1, 5, 6, 7, 8, 75], .keep [4], .keep [0, 1, 5, 6, 8], .keep [4]]
def ir4 : IFun := ⟨2, [.tmp 4], (.seq (.run [.op (some 4) none (.mov (.const (.bool false)))] [0, 1]) (.seq (.seq (.run [.op (some 10) none (.mov (.tmp 0)), .op (some 11) none (.bin .lss (.tmp 10) (.const (.int .u8 1))), .op (some 12) none (.mov (.tmp 11)), .op (some 13) (some (12, false)) (.mov (.tmp 0)), .op (some 14) (some (12, false)) (.bin .gtr (.tmp 13) (.const (.int .u8 200))), .op (some 15) none (.pick (.tmp 12) (.const (.bool true)) (.tmp 14)), .op (some 16) none (.mov (.tmp 15)), .op (some 17) (some (16, false)) (.mov (.tmp 1)), .op (some 18) (some (16, false)) (.lenV (.tmp 17)), .op (some 19) (some (16, false)) (.bin .gtr (.tmp 18) (.const (.int .i64 20))), .op (some 20) none (.pick (.tmp 16) (.const (.bool true)) (.tmp 19))] [0, 1, 20]) (.cond (.tmp 20) (.seq (.run [.call (some 21) none (.fn 10) [], .op (some 4) none (.mov (.tmp 21))] [4]) .ret) .skip)) (.seq (.run [.call (some 22) none (.fn 11) [], .op (some 5) none (.mov (.tmp 22))] [0, 1, 5]) (.seq (.run [.op (some 24) none (.mov (.tmp 5)), .op (some 25) none (.mov (.tmp 0)), .op (some 26) none (.cvI .u64 (.tmp 25)), .call (some 27) none (.fn 12) [(.tmp 24), (.tmp 26)], .op (some 23) none (.mov (.tmp 27)), .op (some 28) none (.ext (.tmp 23) 0), .op (some 29) none (.ext (.tmp 23) 1), .op (some 6) none (.mov (.tmp 28)), .op (some 7) none (.mov (.tmp 29))] [0, 1, 5, 6, 7]) (.seq (.seq (.run [.op (some 30) none (.mov (.tmp 7)), .op (some 31) none (.bin .neq (.tmp 30) (.const (.int .u8 0)))] [0, 1, 5, 6, 31]) (.cond (.tmp 31) (.seq (.run [.op (some 4) none (.mov (.const (.bool false)))] [4]) .ret) .skip)) (.seq (.seq (.run [.op (some 8) none (.mov (.const (.int .i64 0)))] [0, 1, 5, 6, 8]) (.block 0 (.loop [0, 1, 5, 6, 8] (.seq (.seq (.run [.op (some 32) none (.mov (.tmp 8)), .op (some 33) none (.mov (.tmp 1)), .op (some 34) none (.lenV (.tmp 33)), .op (some 35) none (.bin .lss (.tmp 32) (.tmp 34))] [0, 1, 5, 6, 8, 35]) (.cond (.tmp 35) .skip (.exit 0))) (.seq (.block 1 (.seq (.seq (.run [.op (some 9) none (.mov (.const (.int .i64 0)))] [0, 1, 5, 6, 8, 9]) (.block 2 (.loop [0, 1, 5, 6, 8, 9] (.seq (.seq (.run [.op (some 38) none (.mov (.tmp 9)), .op (some 39) none (.mov (.tmp 1)), .op (some 40) none (.mov (.tmp 8)), .op (some 41) none (.iaV 1 (.tmp 39) (.tmp 40)), .op (some 42) none (.ld1 (.tmp 41)), .op (some 43) none (.cvI .i64 (.tmp 42)), .op (some 44) none (.bin .lss (.tmp 38) (.tmp 43))] [0, 1, 5, 6, 8, 9, 44]) (.cond (.tmp 44) .skip (.exit 2))) (.seq (.block 3 (.seq (.run [.op (some 47) none (.mov (.tmp 5)), .call (some 48) none (.fn 16) [(.tmp 47)]] [0, 1, 5, 6, 8, 9]) (.seq (.run [.op (some 49) none (.mov (.tmp 5)), .call (some 50) none (.fn 17) [(.tmp 49)], .op (some 51) none (.bin .eql (.tmp 50) (.const (.int .i64 1))), .op (some 52) none (.mov (.tmp 9)), .op (some 53) none (.bin .add (.tmp 52) (.const (.int .i64 1))), .op (some 54) none (.mov (.tmp 0)), .op (some 55) none (.cvI .i64 (.tmp 54)), .op (some 56) none (.bin .lss (.tmp 53) (.tmp 55)), .op (some 57) none (.eqq true (.one 0) (.tmp 51) (.tmp 56))] [0, 1, 5, 6, 8, 9, 57]) (.cond (.tmp 57) (.seq (.run [.op (some 4) none (.mov (.const (.bool false)))] [4]) .ret) .skip)))) (.run [.op (some 45) none (.mov (.tmp 9)), .op (some 46) none (.bin .add (.tmp 45) (.const (.int .i64 1))), .op (some 9) none (.mov (.tmp 46))] [0, 1, 5, 6, 8, 9])))))) (.seq (.run [.op (some 59) none (.mov (.tmp 5)), .op (some 60) none (.mov (.tmp 6)), .call (some 61) none (.fn 13) [(.tmp 59), (.tmp 60), (.const (.int .u64 1))], .op (some 58) none (.mov (.tmp 61)), .op (some 62) none (.ext (.tmp 58) 0), .op (some 63) none (.ext (.tmp 58) 1), .op (some 64) none (.ext (.tmp 58) 2), .op (some 7) none (.mov (.tmp 64))] [0, 1, 5, 6, 7, 8]) (.seq (.seq (.run [.op (some 65) none (.mov (.tmp 7)), .op (some 66) none (.bin .eql (.tmp 65) (.const (.int .u8 0))), .op (some 67) none (.mov (.tmp 1)), .op (some 68) none (.mov (.tmp 8)), .op (some 69) none (.iaV 1 (.tmp 67) (.tmp 68)), .op (some 70) none (.ld1 (.tmp 69)), .op (some 71) none (.mov (.tmp 0)), .op (some 72) none (.bin .lss (.tmp 70) (.tmp 71)), .op (some 73) none (.eqq true (.one 0) (.tmp 66) (.tmp 72))] [0, 1, 5, 6, 7, 8, 73]) (.cond (.tmp 73) (.seq (.run [.op (some 4) none (.mov (.const (.bool false)))] [4]) .ret) .skip)) (.seq (.run [.op (some 74) none (.mov (.tmp 7)), .op (some 75) none (.bin .neq (.tmp 74) (.const (.int .u8 0)))] [0, 1, 5, 6, 7, 8, 75]) (.cond (.tmp 75) (.seq (.run [.op (some 76) none (.mov (.tmp 7)), .op (some 77) none (.bin .eql (.tmp 76) (.const (.int .u8 5))), .op (some 78) none (.mov (.tmp 77)), .call (some 79) (some (78, true)) (.fn 10) [], .op (some 80) none (.pick (.tmp 78) (.tmp 79) (.const (.bool false))), .op (some 4) none (.mov (.tmp 80))] [4]) .ret) .skip)))))) (.run [.op (some 36) none (.mov (.tmp 8)), .op (some 37) none (.bin .add (.tmp 36) (.const (.int .i64 1))), .op (some 8) none (.mov (.tmp 37))] [0, 1, 5, 6, 8])))))) (.seq (.run [.call (some 81) none (.fn 10) [], .op (some 4) none (.mov (.tmp 81))] [4]) .ret)))))))⟩
theorem ok4 : compF Try.prog 4 hi4 = some ir4 := by kernel_rfl
def hi10 : List Hint := [.keep [], .keep [1], .keep [1, 2, 3], .keep [1, 2, 3, 5, 6], .keep [1, 2, 3, 5, 6], .keep [1, 2, 3, 5, 6, 7, 8, 9], .keep [1, 2, 3, 5, 6, 7, 8, 9], .keep [1, 2, 3, 5, 6, 7, 8, 9], .keep [0]]
def ir10 : IFun := ⟨0, [.tmp 0], (.seq (.run [.op (some 0) none (.mov (.const (.bool false)))] []) (.seq (.run [.call (some 10) none (.fn 11) [], .op (some 1) none (.mov (.tmp 10))] [1]) (.seq (.run [.op (some 12) none (.mov (.tmp 1)), .call (some 13) none (.fn 12) [(.tmp 12), (.const (.int .u64 2))], .op (some 11) none (.mov (.tmp 13)), .op (some 14) none (.ext (.tmp 11) 0), .op (some 15) none (.ext (.tmp 11) 1), .op (some 2) none (.mov (.tmp 14)), .op (some 3) none (.mov (.tmp 15))] [1, 2, 3]) (.seq (.run [.op (some 17) none (.mov (.tmp 1)), .op (some 18) none (.mov (.tmp 2)), .call (some 19) none (.fn 13) [(.tmp 17), (.tmp 18), (.const (.int .u64 1))], .op (some 16) none (.mov (.tmp 19)), .op (some 20) none (.ext (.tmp 16) 0), .op (some 21) none (.ext (.tmp 16) 1), .op (some 22) none (.ext (.tmp 16) 2), .op (some 4) none (.new [(.int .u8 0), (.int .u64 0), (.string ⟨#[]⟩), (.slice none 0 0)]), .op none none (.st 4 (.tmp 4) (.tmp 20)), .op (some 5) none (.mov (.tmp 21)), .op (some 6) none (.mov (.tmp 22))] [1, 2, 3, 5, 6]) (.seq (.run [.op (some 23) none (.mov (.tmp 1)), .op (some 24) none (.mov (.tmp 2)), .op (some 25) none (.build [(.int .u8 0), (.int .u64 0), (.string ⟨#[]⟩), (.slice none 0 0)] [(1, 1, (.const (.int .u64 7)))]), .call (some 26) none (.fn 15) [(.tmp 23), (.tmp 24), (.const (.int .u64 1)), (.tmp 25)]] [1, 2, 3, 5, 6]) (.seq (.run [.op (some 28) none (.mov (.tmp 1)), .op (some 29) none (.mov (.tmp 2)), .call (some 30) none (.fn 13) [(.tmp 28), (.tmp 29), (.const (.int .u64 1))], .op (some 27) none (.mov (.tmp 30)), .op (some 31) none (.ext (.tmp 27) 0), .op (some 32) none (.ext (.tmp 27) 1), .op (some 33) none (.ext (.tmp 27) 2), .op (some 7) none (.new [(.int .u8 0), (.int .u64 0), (.string ⟨#[]⟩), (.slice none 0 0)]), .op none none (.st 4 (.tmp 7) (.tmp 31)), .op (some 8) none (.mov (.tmp 32)), .op (some 9) none (.mov (.tmp 33))] [1, 2, 3, 5, 6, 7, 8, 9]) (.seq (.run [.op (some 34) none (.mov (.tmp 1)), .call (some 35) none (.fn 16) [(.tmp 34)]] [1, 2, 3, 5, 6, 7, 8, 9]) (.seq (.run [.op (some 36) none (.mov (.tmp 1)), .call (some 37) none (.fn 16) [(.tmp 36)]] [1, 2, 3, 5, 6, 7, 8, 9]) (.seq (.run [.op (some 38) none (.mov (.tmp 2)), .op (some 39) none (.bin .eql (.tmp 38) (.const (.int .u64 1))), .op (some 40) none (.mov (.tmp 39)), .op (some 41) (some (40, true)) (.mov (.tmp 3)), .op (some 42) (some (40, true)) (.bin .eql (.tmp 41) (.const (.int .u8 0))), .op (some 43) none (.pick (.tmp 40) (.tmp 42) (.const (.bool false))), .op (some 44) none (.mov (.tmp 43)), .op (some 45) (some (44, true)) (.mov (.tmp 5)), .op (some 46) (some (44, true)) (.un .not (.tmp 45)), .op (some 47) none (.pick (.tmp 44) (.tmp 46) (.const (.bool false))), .op (some 48) none (.mov (.tmp 47)), .op (some 49) (some (48, true)) (.mov (.tmp 6)), .op (some 50) (some (48, true)) (.bin .eql (.tmp 49) (.const (.int .u8 0))), .op (some 51) none (.pick (.tmp 48) (.tmp 50) (.const (.bool false))), .op (some 52) none (.mov (.tmp 51)), .op (some 53) (some (52, true)) (.fa 1 (.tmp 7)), .op (some 54) (some (52, true)) (.ld1 (.tmp 53)), .op (some 55) (some (52, true)) (.bin .eql (.tmp 54) (.const (.int .u64 7))), .op (some 56) none (.pick (.tmp 52) (.tmp 55) (.const (.bool false))), .op (some 57) none (.mov (.tmp 56)), .op (some 58) (some (57, true)) (.mov (.tmp 8)), .op (some 59) none (.pick (.tmp 57) (.tmp 58) (.const (.bool false))), .op (some 60) none (.mov (.tmp 59)), .op (some 61) (some (60, true)) (.mov (.tmp 9)), .op (some 62) (some (60, true)) (.bin .eql (.tmp 61) (.const (.int .u8 0))), .op (some 63) none (.pick (.tmp 60) (.tmp 62) (.const (.bool false))), .op (some 64) none (.mov (.tmp 63)), .op (some 65) (some (64, true)) (.mov (.tmp 1)), .call (some 66) (some (64, true)) (.fn 17) [(.tmp 65)], .op (some 67) (some (64, true)) (.bin .eql (.tmp 66) (.const (.int .i64 0))), .op (some 68) none (.pick (.tmp 64) (.tmp 67) (.const (.bool false))), .op (some 0) none (.mov (.tmp 68))] [0]) .ret)))))))))⟩
theorem ok10 : compF Try.prog 10 hi10 = some ir10 := by kernel_rfl
def hi11 : List Hint := [.keep [], .keep [0]]
def ir11 : IFun := ⟨0, [.tmp 0], (.seq (.run [.op (some 0) none (.mov (.const (.pointer none)))] []) (.seq (.run [.op (some 1) none (.build [(.slice none 0 0), (.int .u64 0)] []), .op (some 2) none (.box (.tmp 1)), .op (some 0) none (.mov (.tmp 2))] [0]) .ret))⟩
theorem ok11 : compF Try.prog 11 hi11 = some ir11 := by kernel_rfl
def hi12 : List Hint := [.keep [0, 1], .keep [0, 1, 6], .keep [4, 5], .keep [0, 1, 9], .keep [4, 5], .keep [0, 1, 12], .keep [4, 5], .keep [0, 1], .draw [.op 0, .op 1, .op 2, .op 3, .op 4, .op 5, .op 6, .op 7, .op 8, .op 9, .op 10, .op 11, .opA 12, .op 13, .op 14, .op 15, .op 16] [0], .keep [4, 5]]
def ir12 : IFun := ⟨2, [.tmp 4, .tmp 5], (.seq (.run [.op (some 4) none (.mov (.const (.int .u64 0))), .op (some 5) none (.mov (.const (.int .u8 0)))] [0, 1]) (.seq (.block 0 (.seq (.run [.op (some 7) none (.mov (.tmp 0)), .op (some 8) none (.eqq false .nilP (.tmp 7) (.const (.pointer none))), .op (some 6) none (.mov (.tmp 8))] [0, 1, 6]) (.cond (.tmp 6) (.seq (.run [.op (some 4) none (.mov (.const (.int .u64 0))), .op (some 5) none (.mov (.const (.int .u8 9)))] [4, 5]) .ret) (.seq (.run [.op (some 10) none (.mov (.tmp 1)), .op (some 11) none (.bin .eql (.tmp 10) (.const (.int .u64 0))), .op (some 9) none (.mov (.tmp 11))] [0, 1, 9]) (.cond (.tmp 9) (.seq (.run [.op (some 4) none (.mov (.const (.int .u64 0))), .op (some 5) none (.mov (.const (.int .u8 11)))] [4, 5]) .ret) (.seq (.run [.op (some 13) none (.mov (.tmp 0)), .op (some 14) none (.nck (.tmp 13)), .op (some 15) none (.fa 0 (.tmp 14)), .op (some 16) none (.ld1 (.tmp 15)), .op (some 17) none (.lenV (.tmp 16)), .op (some 18) none (.bin .eql (.tmp 17) (.const (.int .i64 4))), .op (some 12) none (.mov (.tmp 18))] [0, 1, 12]) (.cond (.tmp 12) (.seq (.run [.op (some 4) none (.mov (.const (.int .u64 0))), .op (some 5) none (.mov (.const (.int .u8 9)))] [4, 5]) .ret) .skip))))))) (.seq (.run [.op (some 19) none (.mov (.tmp 0)), .op (some 20) none (.nck (.tmp 19)), .op (some 21) none (.fa 1 (.tmp 20)), .op (some 22) none (.ld1 (.tmp 21)), .op (some 23) none (.bin .add (.tmp 22) (.const (.int .u64 1))), .op (some 24) none (.nck (.tmp 19)), .op (some 25) none (.fa 1 (.tmp 24)), .op none none (.st 1 (.tmp 25) (.tmp 23))] [0, 1]) (.seq (.draw 17 [.op (some 26) none (.mov (.tmp 0)), .op (some 27) none (.mov (.tmp 0)), .op (some 28) none (.nck (.tmp 27)), .op (some 29) none (.fa 0 (.tmp 28)), .op (some 30) none (.ld1 (.tmp 29)), .op (some 31) none (.mov (.tmp 0)), .op (some 32) none (.nck (.tmp 31)), .op (some 33) none (.fa 1 (.tmp 32)), .op (some 34) none (.ld1 (.tmp 33)), .op (some 35) none (.mov (.tmp 1)), .op (some 36) none (.mov (.tmp 1)), .op (some 37) none (.build [(.int .u64 0), (.int .u64 0), (.int .u64 0), (.int .u64 0), (.string ⟨#[]⟩)] [(0, 1, (.tmp 34)), (1, 1, (.tmp 35)), (2, 1, (.tmp 36))]), .opA (some 38) none (.bsl 5 1 [(.int .u64 0), (.int .u64 0), (.int .u64 0), (.int .u64 0), (.string ⟨#[]⟩)] [(0, 5, (.tmp 37))]) 12, .op (some 39) none (.app 5 48 (.tmp 30) (.tmp 38)), .op (some 40) none (.nck (.tmp 26)), .op (some 41) none (.fa 0 (.tmp 40)), .op none none (.st 1 (.tmp 41) (.tmp 39))] [0]) (.seq (.run [.op (some 42) none (.mov (.tmp 0)), .op (some 43) none (.nck (.tmp 42)), .op (some 44) none (.fa 1 (.tmp 43)), .op (some 45) none (.ld1 (.tmp 44)), .op (some 4) none (.mov (.tmp 45)), .op (some 5) none (.mov (.const (.int .u8 0)))] [4, 5]) .ret)))))⟩
theorem ok12 : compF Try.prog 12 hi12 = some ir12 := by kernel_rfl
end Go.Proofs.Ytomaijljeacpjaa.IrAll
namespace Go.Proofs.Ytomaijljeacpjaa.IrAll
open Go Go.Proofs.Ytomaijljeacpjaa.Am
def hi13 : List Hint := [.keep [0, 1, 2, 6], .keep [2, 6, 9], .keep [2, 6, 9, 16], .keep [6, 7, 8], .keep [2, 6, 9], .keep [2, 6, 9, 25], .keep [6, 7, 8], .keep [6, 9, 37], .keep [6, 10], .keep [6, 7, 8], .keep [6, 7, 8]]
def ir13 : IFun := ⟨3, [.cell 6 (some 4), .tmp 7, .tmp 8], (.seq (.run [.op (some 6) none (.new [(.int .u8 0), (.int .u64 0), (.string ⟨#[]⟩), (.slice none 0 0)]), .op (some 7) none (.mov (.const (.bool false))), .op (some 8) none (.mov (.const (.int .u8 0)))] [0, 1, 2, 6]) (.seq (.run [.op (some 12) none (.mov (.tmp 0)), .op (some 13) none (.mov (.tmp 1)), .call (some 14) none (.fn 29) [(.tmp 12), (.tmp 13)], .op (some 9) none (.mov (.tmp 14))] [2, 6, 9]) (.seq (.seq (.run [.op (some 15) none (.mov (.tmp 9)), .op (some 16) none (.eqq false .nilP (.tmp 15) (.const (.pointer none)))] [2, 6, 9, 16]) (.cond (.tmp 16) (.seq (.run [.op (some 17) none (.build [(.int .u8 0), (.int .u64 0), (.string ⟨#[]⟩), (.slice none 0 0)] []), .op none none (.st 4 (.tmp 6) (.tmp 17)), .op (some 7) none (.mov (.const (.bool false))), .op (some 8) none (.mov (.const (.int .u8 5)))] [6, 7, 8]) .ret) .skip)) (.seq (.run [.op (some 18) none (.mov (.tmp 9)), .op (some 19) none (.mov (.tmp 9)), .op (some 20) none (.nck (.tmp 19)), .op (some 21) none (.fa 1 (.tmp 20)), .op (some 22) none (.ld1 (.tmp 21)), .op (some 23) none (.nck (.tmp 18)), .op (some 24) none (.fa 2 (.tmp 23)), .op none none (.st 1 (.tmp 24) (.tmp 22))] [2, 6, 9]) (.seq (.block 0 (.seq (.run [.op (some 26) none (.mov (.tmp 2)), .op (some 27) none (.bin .eql (.tmp 26) (.const (.int .u64 0))), .op (some 28) none (.mov (.tmp 27)), .op (some 29) (some (28, false)) (.mov (.tmp 2)), .op (some 30) (some (28, false)) (.mov (.tmp 9)), .op (some 31) (some (28, false)) (.nck (.tmp 30)), .op (some 32) (some (28, false)) (.fa 3 (.tmp 31)), .op (some 33) (some (28, false)) (.ld1 (.tmp 32)), .op (some 34) (some (28, false)) (.bin .lss (.tmp 29) (.tmp 33)), .op (some 35) none (.pick (.tmp 28) (.const (.bool true)) (.tmp 34)), .op (some 25) none (.mov (.tmp 35))] [2, 6, 9, 25]) (.cond (.tmp 25) (.seq (.run [.op (some 36) none (.build [(.int .u8 0), (.int .u64 0), (.string ⟨#[]⟩), (.slice none 0 0)] []), .op none none (.st 4 (.tmp 6) (.tmp 36)), .op (some 7) none (.mov (.const (.bool false))), .op (some 8) none (.mov (.const (.int .u8 6)))] [6, 7, 8]) .ret) (.seq (.run [.op (some 38) none (.mov (.tmp 2)), .op (some 39) none (.mov (.tmp 9)), .op (some 40) none (.nck (.tmp 39)), .op (some 41) none (.fa 3 (.tmp 40)), .op (some 42) none (.ld1 (.tmp 41)), .op (some 43) none (.bin .eql (.tmp 38) (.tmp 42)), .op (some 37) none (.mov (.tmp 43))] [6, 9, 37]) (.cond (.tmp 37) (.seq (.run [.op (some 45) none (.mov (.tmp 9)), .op (some 46) none (.nck (.tmp 45)), .op (some 47) none (.fa 4 (.tmp 46)), .op (some 48) none (.ld1 (.tmp 47)), .call (some 49) none (.fn 30) [(.tmp 48)], .op (some 44) none (.mov (.tmp 49)), .op (some 50) none (.ext (.tmp 44) 0), .op (some 51) none (.ext (.tmp 44) 1), .op (some 10) none (.new [(.int .u8 0), (.int .u64 0), (.string ⟨#[]⟩), (.slice none 0 0)]), .op none none (.st 4 (.tmp 10) (.tmp 50)), .op (some 11) none (.mov (.tmp 51))] [6, 10]) (.seq (.run [.op (some 52) none (.ldN 4 (.tmp 10)), .op none none (.st 4 (.tmp 6) (.tmp 52)), .op (some 7) none (.mov (.const (.bool true))), .op (some 8) none (.mov (.const (.int .u8 0)))] [6, 7, 8]) .ret)) .skip))))) (.seq (.run [.op (some 53) none (.build [(.int .u8 0), (.int .u64 0), (.string ⟨#[]⟩), (.slice none 0 0)] []), .op none none (.st 4 (.tmp 6) (.tmp 53)), .op (some 7) none (.mov (.const (.bool false))), .op (some 8) none (.mov (.const (.int .u8 0)))] [6, 7, 8]) .ret))))))⟩
theorem ok13 : compF Try.prog 13 hi13 = some ir13 := by kernel_rfl
def hi15 : List Hint := [.keep [0, 1, 2, 7], .keep [2, 7, 8], .keep [2, 7, 8, 21], .keep []]
def ir15 : IFun := ⟨4, [], (.seq (.run [.op (some 7) none (.box (.tmp 3))] [0, 1, 2, 7]) (.seq (.run [.op (some 9) none (.mov (.tmp 0)), .op (some 10) none (.mov (.tmp 1)), .call (some 11) none (.fn 29) [(.tmp 9), (.tmp 10)], .op (some 8) none (.mov (.tmp 11))] [2, 7, 8]) (.seq (.run [.op (some 12) none (.mov (.tmp 8)), .op (some 13) none (.eqq true .nilP (.tmp 12) (.const (.pointer none))), .op (some 14) none (.mov (.tmp 13)), .op (some 15) (some (14, true)) (.mov (.tmp 2)), .op (some 16) (some (14, true)) (.mov (.tmp 8)), .op (some 17) (some (14, true)) (.nck (.tmp 16)), .op (some 18) (some (14, true)) (.fa 3 (.tmp 17)), .op (some 19) (some (14, true)) (.ld1 (.tmp 18)), .op (some 20) (some (14, true)) (.bin .gtr (.tmp 15) (.tmp 19)), .op (some 21) none (.pick (.tmp 14) (.tmp 20) (.const (.bool false)))] [2, 7, 8, 21]) (.cond (.tmp 21) (.run [.op (some 22) none (.mov (.tmp 8)), .op (some 23) none (.mov (.tmp 8)), .op (some 24) none (.mov (.tmp 2)), .op (some 25) none (.ldN 4 (.tmp 7)), .call (some 26) none (.fn 31) [(.tmp 25)], .op (some 27) none (.nck (.tmp 22)), .op (some 28) none (.fa 3 (.tmp 27)), .op none none (.st 1 (.tmp 28) (.tmp 24)), .op (some 29) none (.nck (.tmp 23)), .op (some 30) none (.fa 4 (.tmp 29)), .op none none (.st 1 (.tmp 30) (.tmp 26))] []) .skip))))⟩
theorem ok15 : compF Try.prog 15 hi15 = some ir15 := by kernel_rfl
def hi16 : List Hint := [.keep [0, 4], .keep [0, 9, 10], .keep [0, 9, 10], .keep [0, 9, 10, 11], .keep [0, 2, 9, 10], .keep [0, 9, 10], .keep [0, 9, 10], .keep []]
def ir16 : IFun := ⟨1, [], (.seq (.seq (.run [.op (some 3) none (.mov (.tmp 0)), .op (some 4) none (.eqq false .nilP (.tmp 3) (.const (.pointer none)))] [0, 4]) (.cond (.tmp 4) .ret .skip)) (.seq (.seq (.run [.op (some 5) none (.mov (.tmp 0)), .op (some 6) none (.nck (.tmp 5)), .op (some 7) none (.fa 0 (.tmp 6)), .op (some 8) none (.ld1 (.tmp 7)), .op (some 9) none (.lenV (.tmp 8)), .op (some 10) none (.mov (.const (.int .i64 0)))] [0, 9, 10]) (.block 0 (.loop [0, 9, 10] (.seq (.run [.op (some 11) none (.bin .lss (.tmp 10) (.tmp 9))] [0, 9, 10, 11]) (.seq (.cond (.tmp 11) .skip (.exit 0)) (.seq (.block 1 (.seq (.run [.op (some 12) none (.mov (.tmp 10)), .op (some 2) none (.mov (.tmp 12))] [0, 2, 9, 10]) (.run [.op (some 13) none (.mov (.tmp 0)), .op (some 14) none (.nck (.tmp 13)), .op (some 15) none (.fa 0 (.tmp 14)), .op (some 16) none (.ld1 (.tmp 15)), .op (some 17) none (.mov (.tmp 2)), .op (some 18) none (.iaV 5 (.tmp 16) (.tmp 17)), .op (some 19) none (.fa 2 (.tmp 18)), .op (some 20) none (.ld1 (.tmp 19)), .op (some 21) none (.bin .sub (.tmp 20) (.const (.int .u64 1))), .op (some 22) none (.iaV 5 (.tmp 16) (.tmp 17)), .op (some 23) none (.fa 2 (.tmp 22)), .op none none (.st 1 (.tmp 23) (.tmp 21))] [0, 9, 10]))) (.run [.op (some 24) none (.bin .add (.tmp 10) (.const (.int .i64 1))), .op (some 10) none (.mov (.tmp 24))] [0, 9, 10]))))))) (.run [.op (some 25) none (.mov (.tmp 0)), .op (some 26) none (.mov (.tmp 0)), .op (some 27) none (.nck (.tmp 26)), .op (some 28) none (.fa 0 (.tmp 27)), .op (some 29) none (.ld1 (.tmp 28)), .call (some 30) none (.fn 32) [(.tmp 29), (.func 33)], .op (some 31) none (.nck (.tmp 25)), .op (some 32) none (.fa 0 (.tmp 31)), .op none none (.st 1 (.tmp 32) (.tmp 30))] [])))⟩
theorem ok16 : compF Try.prog 16 hi16 = some ir16 := by kernel_rfl
def hi17 : List Hint := [.keep [0], .keep [0, 4], .keep [2], .keep [2]]
def ir17 : IFun := ⟨1, [.tmp 2], (.seq (.run [.op (some 2) none (.mov (.const (.int .i64 0)))] [0]) (.seq (.seq (.run [.op (some 3) none (.mov (.tmp 0)), .op (some 4) none (.eqq false .nilP (.tmp 3) (.const (.pointer none)))] [0, 4]) (.cond (.tmp 4) (.seq (.run [.op (some 2) none (.mov (.const (.int .i64 0)))] [2]) .ret) .skip)) (.seq (.run [.op (some 5) none (.mov (.tmp 0)), .op (some 6) none (.nck (.tmp 5)), .op (some 7) none (.fa 0 (.tmp 6)), .op (some 8) none (.ld1 (.tmp 7)), .op (some 9) none (.lenV (.tmp 8)), .op (some 2) none (.mov (.tmp 9))] [2]) .ret)))⟩
theorem ok17 : compF Try.prog 17 hi17 = some ir17 := by kernel_rfl
end Go.Proofs.Ytomaijljeacpjaa.IrAll
namespace Go.Proofs.Ytomaijljeacpjaa.IrAll
open Go Go.Proofs.Ytomaijljeacpjaa.Am
def hi29 : List Hint := [.keep [0, 3], .keep [0, 3, 7], .keep [4], .keep [0, 5], .keep [0, 5, 15], .keep [4], .keep [4]]
def ir29 : IFun := ⟨2, [.tmp 4], (.seq (.run [.op (some 3) none (.box (.tmp 1)), .op (some 4) none (.mov (.const (.pointer none)))] [0, 3]) (.seq (.seq (.run [.op (some 6) none (.mov (.tmp 0)), .op (some 7) none (.eqq false .nilP (.tmp 6) (.const (.pointer none)))] [0, 3, 7]) (.cond (.tmp 7) (.seq (.run [.op (some 4) none (.mov (.const (.pointer none)))] [4]) .ret) .skip)) (.seq (.run [.op (some 8) none (.mov (.tmp 0)), .op (some 9) none (.nck (.tmp 8)), .op (some 10) none (.fa 0 (.tmp 9)), .op (some 11) none (.ld1 (.tmp 10)), .op (some 12) none (.mkF (.func 50) [] [(.tmp 3)]), .call (some 13) none (.fn 49) [(.tmp 11), (.tmp 12)], .op (some 5) none (.mov (.tmp 13))] [0, 5]) (.seq (.seq (.run [.op (some 14) none (.mov (.tmp 5)), .op (some 15) none (.bin .lss (.tmp 14) (.const (.int .i64 0)))] [0, 5, 15]) (.cond (.tmp 15) (.seq (.run [.op (some 4) none (.mov (.const (.pointer none)))] [4]) .ret) .skip)) (.seq (.run [.op (some 16) none (.mov (.tmp 0)), .op (some 17) none (.nck (.tmp 16)), .op (some 18) none (.fa 0 (.tmp 17)), .op (some 19) none (.ld1 (.tmp 18)), .op (some 20) none (.mov (.tmp 5)), .op (some 21) none (.iaV 5 (.tmp 19) (.tmp 20)), .op (some 4) none (.mov (.tmp 21))] [4]) .ret)))))⟩
theorem ok29 : compF Try.prog 29 hi29 = some ir29 := by kernel_rfl
def hi30 : List Hint := [.keep [0, 2], .keep [0, 2, 4], .keep [2, 4, 5], .keep [2, 4, 5, 6], .keep [2, 4, 5, 6], .keep [2, 4, 5, 6, 22], .keep [2, 4, 5, 6, 7], .keep [2, 4, 5, 6, 7], .keep [2, 4, 5, 6], .keep [2, 4, 5, 6], .keep [2, 4, 36], .keep [2, 3], .keep [2, 3]]
def ir30 : IFun := ⟨1, [.cell 2 (some 4), .tmp 3], (.seq (.run [.op (some 2) none (.new [(.int .u8 0), (.int .u64 0), (.string ⟨#[]⟩), (.slice none 0 0)]), .op (some 3) none (.mov (.const (.bool false)))] [0, 2]) (.seq (.run [.op (some 4) none (.new [(.int .u8 0), (.int .u64 0), (.string ⟨#[]⟩), (.slice none 0 0)])] [0, 2, 4]) (.seq (.run [.op (some 8) none (.mov (.tmp 0)), .op (some 9) none (.build [(.string ⟨#[]⟩), (.bool false)] [(0, 1, (.tmp 8))]), .op (some 10) none (.box (.tmp 9)), .op (some 5) none (.mov (.tmp 10))] [2, 4, 5]) (.seq (.seq (.run [.op (some 11) none (.mov (.tmp 5)), .op (some 12) none (.mkI 100 (.tmp 11)), .call (some 13) none (.fn 51) [(.tmp 12), (.tmp 4)], .op (some 6) none (.mov (.tmp 13))] [2, 4, 5, 6]) (.block 0 (.loop [2, 4, 5, 6] (.seq (.seq (.run [.op (some 14) none (.mov (.tmp 6)), .op (some 15) none (.bin .gtr (.tmp 14) (.const (.int .u64 0))), .op (some 16) none (.mov (.tmp 15)), .op (some 17) (some (16, true)) (.mov (.tmp 5)), .op (some 18) (some (16, true)) (.nck (.tmp 17)), .op (some 19) (some (16, true)) (.fa 1 (.tmp 18)), .op (some 20) (some (16, true)) (.ld1 (.tmp 19)), .op (some 21) (some (16, true)) (.un .not (.tmp 20)), .op (some 22) none (.pick (.tmp 16) (.tmp 21) (.const (.bool false)))] [2, 4, 5, 6, 22]) (.cond (.tmp 22) .skip (.exit 0))) (.seq (.block 1 (.seq (.run [.op (some 7) none (.new [(.string ⟨#[]⟩), (.string ⟨#[]⟩), (.int .u64 0)])] [2, 4, 5, 6, 7]) (.seq (.run [.op (some 25) none (.mov (.tmp 5)), .op (some 26) none (.mkI 100 (.tmp 25)), .call (some 27) none (.fn 52) [(.tmp 26), (.tmp 7)]] [2, 4, 5, 6, 7]) (.run [.op (some 28) none (.fa 3 (.tmp 4)), .op (some 29) none (.ld1 (.tmp 28)), .op (some 30) none (.ldN 3 (.tmp 7)), .op (some 31) none (.bsl 3 1 [(.string ⟨#[]⟩), (.string ⟨#[]⟩), (.int .u64 0)] [(0, 3, (.tmp 30))]), .op (some 32) none (.app 3 40 (.tmp 29) (.tmp 31)), .op (some 33) none (.fa 3 (.tmp 4)), .op none none (.st 1 (.tmp 33) (.tmp 32))] [2, 4, 5, 6])))) (.run [.op (some 23) none (.mov (.tmp 6)), .op (some 24) none (.bin .sub (.tmp 23) (.const (.int .u64 1))), .op (some 6) none (.mov (.tmp 24))] [2, 4, 5, 6])))))) (.seq (.seq (.run [.op (some 34) none (.mov (.tmp 5)), .call (some 35) none (.fn 53) [(.tmp 34)], .op (some 36) none (.un .not (.tmp 35))] [2, 4, 36]) (.cond (.tmp 36) (.seq (.run [.op (some 37) none (.build [(.int .u8 0), (.int .u64 0), (.string ⟨#[]⟩), (.slice none 0 0)] []), .op none none (.st 4 (.tmp 2) (.tmp 37)), .op (some 3) none (.mov (.const (.bool false)))] [2, 3]) .ret) .skip)) (.seq (.run [.op (some 38) none (.ldN 4 (.tmp 4)), .op none none (.st 4 (.tmp 2) (.tmp 38)), .op (some 3) none (.mov (.const (.bool true)))] [2, 3]) .ret))))))⟩
theorem ok30 : compF Try.prog 30 hi30 = some ir30 := by kernel_rfl
def hi31 : List Hint := [.keep [1], .keep [1, 3], .keep [1, 3], .keep [1, 3, 12, 13], .keep [1, 3, 12, 13], .keep [1, 3, 12, 13, 14], .keep [1, 3, 4, 12, 13], .keep [1, 3, 12, 13], .keep [1, 3, 12, 13], .keep [2]]
def ir31 : IFun := ⟨1, [.tmp 2], (.seq (.run [.op (some 1) none (.box (.tmp 0)), .op (some 2) none (.mov (.const (.string ⟨#[]⟩)))] [1]) (.seq (.run [.op (some 5) none (.build [(.slice none 0 0)] []), .op (some 6) none (.box (.tmp 5)), .op (some 3) none (.mov (.tmp 6))] [1, 3]) (.seq (.run [.op (some 7) none (.mov (.tmp 3)), .op (some 8) none (.mkI 107 (.tmp 7)), .call (some 9) none (.fn 51) [(.tmp 8), (.tmp 1)]] [1, 3]) (.seq (.seq (.run [.op (some 10) none (.fa 3 (.tmp 1)), .op (some 11) none (.ld1 (.tmp 10)), .op (some 12) none (.lenV (.tmp 11)), .op (some 13) none (.mov (.const (.int .i64 0)))] [1, 3, 12, 13]) (.block 0 (.loop [1, 3, 12, 13] (.seq (.run [.op (some 14) none (.bin .lss (.tmp 13) (.tmp 12))] [1, 3, 12, 13, 14]) (.seq (.cond (.tmp 14) .skip (.exit 0)) (.seq (.block 1 (.seq (.run [.op (some 15) none (.mov (.tmp 13)), .op (some 4) none (.mov (.tmp 15))] [1, 3, 4, 12, 13]) (.run [.op (some 16) none (.mov (.tmp 3)), .op (some 17) none (.mkI 107 (.tmp 16)), .op (some 18) none (.fa 3 (.tmp 1)), .op (some 19) none (.ld1 (.tmp 18)), .op (some 20) none (.mov (.tmp 4)), .op (some 21) none (.iaV 3 (.tmp 19) (.tmp 20)), .call (some 22) none (.fn 52) [(.tmp 17), (.tmp 21)]] [1, 3, 12, 13]))) (.run [.op (some 23) none (.bin .add (.tmp 13) (.const (.int .i64 1))), .op (some 13) none (.mov (.tmp 23))] [1, 3, 12, 13]))))))) (.seq (.run [.op (some 24) none (.mov (.tmp 3)), .op (some 25) none (.nck (.tmp 24)), .op (some 26) none (.fa 0 (.tmp 25)), .op (some 27) none (.ld1 (.tmp 26)), .op (some 28) none (.cvB (.tmp 27)), .op (some 2) none (.mov (.tmp 28))] [2]) .ret)))))⟩
theorem ok31 : compF Try.prog 31 hi31 = some ir31 := by kernel_rfl
def hi32 : List Hint := [.keep [0, 1], .keep [0, 1, 5], .keep [0, 1, 5, 12], .keep [4], .keep [0, 1, 5, 6], .keep [0, 1, 5, 6], .keep [0, 1, 5, 6, 19], .keep [0, 1, 5, 6, 7], .keep [0, 1, 5, 6, 7, 29], .keep [0, 1, 5, 6], .keep [0, 1, 5, 6], .keep [0, 1, 5, 6], .keep [0, 5], .keep [4]]
def ir32 : IFun := ⟨2, [.tmp 4], (.seq (.run [.op (some 4) none (.mov (.const (.slice none 0 0)))] [0, 1]) (.seq (.run [.op (some 8) none (.mov (.tmp 0)), .op (some 9) none (.mov (.tmp 1)), .call (some 10) none (.fn 49) [(.tmp 8), (.tmp 9)], .op (some 5) none (.mov (.tmp 10))] [0, 1, 5]) (.seq (.seq (.run [.op (some 11) none (.mov (.tmp 5)), .op (some 12) none (.bin .eql (.tmp 11) (.const (.int .i64 (-1))))] [0, 1, 5, 12]) (.cond (.tmp 12) (.seq (.run [.op (some 13) none (.mov (.tmp 0)), .op (some 4) none (.mov (.tmp 13))] [4]) .ret) .skip)) (.seq (.seq (.run [.op (some 14) none (.mov (.tmp 5)), .op (some 15) none (.bin .add (.tmp 14) (.const (.int .i64 1))), .op (some 6) none (.mov (.tmp 15))] [0, 1, 5, 6]) (.block 0 (.loop [0, 1, 5, 6] (.seq (.seq (.run [.op (some 16) none (.mov (.tmp 6)), .op (some 17) none (.mov (.tmp 0)), .op (some 18) none (.lenV (.tmp 17)), .op (some 19) none (.bin .lss (.tmp 16) (.tmp 18))] [0, 1, 5, 6, 19]) (.cond (.tmp 19) .skip (.exit 0))) (.seq (.block 1 (.seq (.run [.op (some 22) none (.mov (.tmp 0)), .op (some 23) none (.mov (.tmp 6)), .op (some 24) none (.iaV 5 (.tmp 22) (.tmp 23)), .op (some 25) none (.ldN 5 (.tmp 24)), .op (some 7) none (.new [(.int .u64 0), (.int .u64 0), (.int .u64 0), (.int .u64 0), (.string ⟨#[]⟩)]), .op none none (.st 5 (.tmp 7) (.tmp 25))] [0, 1, 5, 6, 7]) (.seq (.run [.op (some 26) none (.mov (.tmp 1)), .op (some 27) none (.ldN 5 (.tmp 7)), .call (some 28) none (.val (.tmp 26)) [(.tmp 27)], .op (some 29) none (.un .not (.tmp 28))] [0, 1, 5, 6, 7, 29]) (.cond (.tmp 29) (.seq (.run [.op (some 30) none (.mov (.tmp 0)), .op (some 31) none (.mov (.tmp 5)), .op (some 32) none (.ldN 5 (.tmp 7)), .op (some 33) none (.iaV 5 (.tmp 30) (.tmp 31)), .op none none (.st 5 (.tmp 33) (.tmp 32))] [0, 1, 5, 6]) (.run [.op (some 34) none (.mov (.tmp 5)), .op (some 35) none (.bin .add (.tmp 34) (.const (.int .i64 1))), .op (some 5) none (.mov (.tmp 35))] [0, 1, 5, 6])) .skip)))) (.run [.op (some 20) none (.mov (.tmp 6)), .op (some 21) none (.bin .add (.tmp 20) (.const (.int .i64 1))), .op (some 6) none (.mov (.tmp 21))] [0, 1, 5, 6])))))) (.seq (.run [.op (some 36) none (.mov (.tmp 0)), .op (some 37) none (.mov (.tmp 5)), .op (some 38) none (.slV 5 (.tmp 36) (some (.tmp 37)) none none), .op none none (.clr 5 [(.int .u64 0), (.int .u64 0), (.int .u64 0), (.int .u64 0), (.string ⟨#[]⟩)] (.tmp 38))] [0, 5]) (.seq (.run [.op (some 39) none (.mov (.tmp 0)), .op (some 40) none (.mov (.tmp 5)), .op (some 41) none (.slV 5 (.tmp 39) none (some (.tmp 40)) none), .op (some 4) none (.mov (.tmp 41))] [4]) .ret))))))⟩
theorem ok32 : compF Try.prog 32 hi32 = some ir32 := by kernel_rfl
def hi33 : List Hint := [.keep [1], .keep [2]]
def ir33 : IFun := ⟨1, [.tmp 2], (.seq (.run [.op (some 1) none (.box (.tmp 0)), .op (some 2) none (.mov (.const (.bool false)))] [1]) (.seq (.run [.op (some 3) none (.fa 2 (.tmp 1)), .op (some 4) none (.ld1 (.tmp 3)), .op (some 5) none (.bin .eql (.tmp 4) (.const (.int .u64 0))), .op (some 2) none (.mov (.tmp 5))] [2]) .ret))⟩
theorem ok33 : compF Try.prog 33 hi33 = some ir33 := by kernel_rfl
def hi35 : List Hint := [.keep [0, 2, 3], .keep [0, 2, 3], .keep [0, 2, 3, 13], .keep [0, 2, 3, 5], .keep [0, 2, 3, 5, 27], .keep [0, 2, 3, 5], .keep [0, 2, 3, 5], .keep [0, 2, 3, 38], .keep [2, 3, 4], .keep [2, 3, 4]]
def ir35 : IFun := ⟨1, [.tmp 2, .tmp 3, .tmp 4], (.seq (.run [.op (some 2) none (.mov (.const (.int .u64 0))), .op (some 3) none (.mov (.const (.int .i64 0))), .op (some 4) none (.mov (.const (.bool false)))] [0, 2, 3]) (.seq (.block 0 (.loop [0, 2, 3] (.seq (.seq (.run [.op (some 6) none (.mov (.tmp 3)), .op (some 7) none (.mov (.tmp 0)), .op (some 8) none (.lenS (.tmp 7)), .op (some 9) none (.bin .lss (.tmp 6) (.tmp 8)), .op (some 10) none (.mov (.tmp 9)), .op (some 11) (some (10, true)) (.mov (.tmp 3)), .op (some 12) (some (10, true)) (.bin .lss (.tmp 11) (.const (.int .i64 10))), .op (some 13) none (.pick (.tmp 10) (.tmp 12) (.const (.bool false)))] [0, 2, 3, 13]) (.cond (.tmp 13) .skip (.exit 0))) (.block 1 (.seq (.run [.op (some 14) none (.mov (.tmp 0)), .op (some 15) none (.mov (.tmp 3)), .op (some 16) none (.ixS (.tmp 14) (.tmp 15)), .op (some 5) none (.mov (.tmp 16))] [0, 2, 3, 5]) (.seq (.seq (.run [.op (some 17) none (.mov (.tmp 3)), .op (some 18) none (.bin .eql (.tmp 17) (.const (.int .i64 0))), .op (some 19) none (.mov (.tmp 18)), .op (some 20) (some (19, true)) (.mov (.tmp 5)), .op (some 21) (some (19, true)) (.bin .eql (.tmp 20) (.const (.int .u8 128))), .op (some 22) none (.pick (.tmp 19) (.tmp 21) (.const (.bool false))), .op (some 23) none (.mov (.tmp 22)), .op (some 24) (some (23, false)) (.mov (.tmp 2)), .op (some 25) (some (23, false)) (.bin .shr (.tmp 24) (.const (.int .u64 57))), .op (some 26) (some (23, false)) (.bin .gtr (.tmp 25) (.const (.int .u64 0))), .op (some 27) none (.pick (.tmp 23) (.const (.bool true)) (.tmp 26))] [0, 2, 3, 5, 27]) (.cond (.tmp 27) (.exit 0) .skip)) (.seq (.run [.op (some 28) none (.mov (.tmp 2)), .op (some 29) none (.bin .shl (.tmp 28) (.const (.int .u64 7))), .op (some 30) none (.mov (.tmp 5)), .op (some 31) none (.bin .and (.tmp 30) (.const (.int .u8 127))), .op (some 32) none (.cvI .u64 (.tmp 31)), .op (some 33) none (.bin .or (.tmp 29) (.tmp 32)), .op (some 2) none (.mov (.tmp 33))] [0, 2, 3, 5]) (.seq (.run [.op (some 34) none (.mov (.tmp 3)), .op (some 35) none (.bin .add (.tmp 34) (.const (.int .i64 1))), .op (some 3) none (.mov (.tmp 35))] [0, 2, 3, 5]) (.seq (.run [.op (some 36) none (.mov (.tmp 5)), .op (some 37) none (.bin .and (.tmp 36) (.const (.int .u8 128))), .op (some 38) none (.bin .eql (.tmp 37) (.const (.int .u8 0)))] [0, 2, 3, 38]) (.cond (.tmp 38) (.seq (.run [.op (some 39) none (.mov (.tmp 2)), .op (some 40) none (.mov (.tmp 3)), .op (some 2) none (.mov (.tmp 39)), .op (some 3) none (.mov (.tmp 40)), .op (some 4) none (.mov (.const (.bool true)))] [2, 3, 4]) .ret) .skip)))))))))) (.seq (.run [.op (some 2) none (.mov (.const (.int .u64 0))), .op (some 3) none (.mov (.const (.int .i64 0))), .op (some 4) none (.mov (.const (.bool false)))] [2, 3, 4]) .ret)))⟩
theorem ok35 : compF Try.prog 35 hi35 = some ir35 := by kernel_rfl
def hi36 : List Hint := [.keep [0], .keep [0, 4, 5, 6], .keep [0, 5, 6, 23], .keep [2, 3, 4], .keep [2, 3, 4]]
def ir36 : IFun := ⟨1, [.tmp 2, .tmp 3, .tmp 4], (.seq (.run [.op (some 2) none (.mov (.const (.string ⟨#[]⟩))), .op (some 3) none (.mov (.const (.int .i64 0))), .op (some 4) none (.mov (.const (.bool false)))] [0]) (.seq (.run [.op (some 8) none (.mov (.tmp 0)), .call (some 9) none (.fn 35) [(.tmp 8)], .op (some 7) none (.mov (.tmp 9)), .op (some 10) none (.ext (.tmp 7) 0), .op (some 11) none (.ext (.tmp 7) 1), .op (some 12) none (.ext (.tmp 7) 2), .op (some 5) none (.mov (.tmp 10)), .op (some 6) none (.mov (.tmp 11)), .op (some 4) none (.mov (.tmp 12))] [0, 4, 5, 6]) (.seq (.seq (.run [.op (some 13) none (.mov (.tmp 4)), .op (some 14) none (.un .not (.tmp 13)), .op (some 15) none (.mov (.tmp 14)), .op (some 16) (some (15, false)) (.mov (.tmp 5)), .op (some 17) (some (15, false)) (.mov (.tmp 0)), .op (some 18) (some (15, false)) (.lenS (.tmp 17)), .op (some 19) (some (15, false)) (.mov (.tmp 6)), .op (some 20) (some (15, false)) (.bin .sub (.tmp 18) (.tmp 19)), .op (some 21) (some (15, false)) (.cvI .u64 (.tmp 20)), .op (some 22) (some (15, false)) (.bin .gtr (.tmp 16) (.tmp 21)), .op (some 23) none (.pick (.tmp 15) (.const (.bool true)) (.tmp 22))] [0, 5, 6, 23]) (.cond (.tmp 23) (.seq (.run [.op (some 2) none (.mov (.const (.string ⟨#[]⟩))), .op (some 3) none (.mov (.const (.int .i64 0))), .op (some 4) none (.mov (.const (.bool false)))] [2, 3, 4]) .ret) .skip)) (.seq (.run [.op (some 24) none (.mov (.tmp 0)), .op (some 25) none (.mov (.tmp 6)), .op (some 26) none (.mov (.tmp 6)), .op (some 27) none (.mov (.tmp 5)), .op (some 28) none (.cvI .i64 (.tmp 27)), .op (some 29) none (.bin .add (.tmp 26) (.tmp 28)), .op (some 30) none (.slS (.tmp 24) (some (.tmp 25)) (some (.tmp 29))), .op (some 31) none (.mov (.tmp 6)), .op (some 32) none (.mov (.tmp 5)), .op (some 33) none (.cvI .i64 (.tmp 32)), .op (some 34) none (.bin .add (.tmp 31) (.tmp 33)), .op (some 2) none (.mov (.tmp 30)), .op (some 3) none (.mov (.tmp 34)), .op (some 4) none (.mov (.const (.bool true)))] [2, 3, 4]) .ret))))⟩
theorem ok36 : compF Try.prog 36 hi36 = some ir36 := by kernel_rfl
def hi38 : List Hint := [.keep [0], .keep [0, 3], .keep [3, 8, 9, 10], .keep [3, 8, 9, 10], .keep [3, 8, 9, 10, 11], .keep [3, 5, 8, 9, 10], .keep [3, 5, 6, 8, 9, 10], .keep [3, 5, 6, 7, 8, 9, 10], .keep [3, 5, 6, 7, 8, 9, 10], .keep [3, 5, 6, 7, 8, 9, 10], .keep [3, 5, 6, 7, 8, 9, 10], .keep [3, 5, 6, 7, 8, 9, 10, 22], .keep [3, 5, 6, 7, 8, 9, 10], .keep [3, 5, 6, 7, 8, 9, 10], .keep [3, 5, 6, 7, 8, 9, 10], .keep [3, 8, 9, 10], .keep [3, 8, 9, 10], .keep [2]]
def ir38 : IFun := ⟨1, [.tmp 2], (.seq (.run [.op (some 2) none (.mov (.const (.string ⟨#[]⟩)))] [0]) (.seq (.run [.op (some 3) none (.mov (.const (.slice none 0 0)))] [0, 3]) (.seq (.seq (.run [.op (some 8) none (.mov (.tmp 0)), .op (some 9) none (.lenV (.tmp 8)), .op (some 10) none (.mov (.const (.int .i64 0)))] [3, 8, 9, 10]) (.block 0 (.loop [3, 8, 9, 10] (.seq (.run [.op (some 11) none (.bin .lss (.tmp 10) (.tmp 9))] [3, 8, 9, 10, 11]) (.seq (.cond (.tmp 11) .skip (.exit 0)) (.seq (.block 1 (.seq (.run [.op (some 12) none (.iaV 1 (.tmp 8) (.tmp 10)), .op (some 13) none (.ld1 (.tmp 12)), .op (some 5) none (.mov (.tmp 13))] [3, 5, 8, 9, 10]) (.seq (.run [.op (some 6) none (.new [(.int .u8 0), (.int .u8 0), (.int .u8 0), (.int .u8 0), (.int .u8 0), (.int .u8 0), (.int .u8 0), (.int .u8 0), (.int .u8 0), (.int .u8 0)])] [3, 5, 6, 8, 9, 10]) (.seq (.run [.op (some 7) none (.mov (.const (.int .i64 9)))] [3, 5, 6, 7, 8, 9, 10]) (.seq (.run [.op (some 14) none (.mov (.tmp 7)), .op (some 15) none (.mov (.tmp 5)), .op (some 16) none (.bin .and (.tmp 15) (.const (.int .u64 127))), .op (some 17) none (.cvI .u8 (.tmp 16)), .op (some 18) none (.iaA 10 1 (.tmp 6) (.tmp 14)), .op none none (.st 1 (.tmp 18) (.tmp 17))] [3, 5, 6, 7, 8, 9, 10]) (.seq (.seq (.run [.op (some 19) none (.mov (.tmp 5)), .op (some 20) none (.bin .shr (.tmp 19) (.const (.int .u64 7))), .op (some 5) none (.mov (.tmp 20))] [3, 5, 6, 7, 8, 9, 10]) (.block 2 (.loop [3, 5, 6, 7, 8, 9, 10] (.seq (.seq (.run [.op (some 21) none (.mov (.tmp 5)), .op (some 22) none (.bin .gtr (.tmp 21) (.const (.int .u64 0)))] [3, 5, 6, 7, 8, 9, 10, 22]) (.cond (.tmp 22) .skip (.exit 2))) (.seq (.block 3 (.seq (.run [.op (some 25) none (.mov (.tmp 7)), .op (some 26) none (.bin .sub (.tmp 25) (.const (.int .i64 1))), .op (some 7) none (.mov (.tmp 26))] [3, 5, 6, 7, 8, 9, 10]) (.run [.op (some 27) none (.mov (.tmp 7)), .op (some 28) none (.mov (.tmp 5)), .op (some 29) none (.bin .and (.tmp 28) (.const (.int .u64 127))), .op (some 30) none (.cvI .u8 (.tmp 29)), .op (some 31) none (.bin .or (.tmp 30) (.const (.int .u8 128))), .op (some 32) none (.iaA 10 1 (.tmp 6) (.tmp 27)), .op none none (.st 1 (.tmp 32) (.tmp 31))] [3, 5, 6, 7, 8, 9, 10]))) (.run [.op (some 23) none (.mov (.tmp 5)), .op (some 24) none (.bin .shr (.tmp 23) (.const (.int .u64 7))), .op (some 5) none (.mov (.tmp 24))] [3, 5, 6, 7, 8, 9, 10])))))) (.run [.op (some 33) none (.mov (.tmp 3)), .op (some 34) none (.mov (.tmp 7)), .op (some 35) none (.slA 10 1 (.tmp 6) (some (.tmp 34)) none none), .op (some 36) none (.app 1 1 (.tmp 33) (.tmp 35)), .op (some 3) none (.mov (.tmp 36))] [3, 8, 9, 10]))))))) (.run [.op (some 37) none (.bin .add (.tmp 10) (.const (.int .i64 1))), .op (some 10) none (.mov (.tmp 37))] [3, 8, 9, 10]))))))) (.seq (.run [.op (some 38) none (.mov (.tmp 3)), .op (some 39) none (.cvB (.tmp 38)), .op (some 2) none (.mov (.tmp 39))] [2]) .ret))))⟩
theorem ok38 : compF Try.prog 38 hi38 = some ir38 := by kernel_rfl
def hi40 : List Hint := [.keep [0], .keep [0, 3], .keep [3, 6, 7, 8], .keep [3, 6, 7, 8], .keep [3, 6, 7, 8, 9], .keep [3, 5, 6, 7, 8], .keep [3, 6, 7, 8], .keep [3, 6, 7, 8], .keep [2]]
def ir40 : IFun := ⟨1, [.tmp 2], (.seq (.run [.op (some 2) none (.mov (.const (.string ⟨#[]⟩)))] [0]) (.seq (.run [.op (some 3) none (.mov (.const (.string ⟨#[]⟩)))] [0, 3]) (.seq (.seq (.run [.op (some 6) none (.mov (.tmp 0)), .op (some 7) none (.lenV (.tmp 6)), .op (some 8) none (.mov (.const (.int .i64 0)))] [3, 6, 7, 8]) (.block 0 (.loop [3, 6, 7, 8] (.seq (.run [.op (some 9) none (.bin .lss (.tmp 8) (.tmp 7))] [3, 6, 7, 8, 9]) (.seq (.cond (.tmp 9) .skip (.exit 0)) (.seq (.block 1 (.seq (.run [.op (some 10) none (.iaV 1 (.tmp 6) (.tmp 8)), .op (some 11) none (.ld1 (.tmp 10)), .op (some 5) none (.mov (.tmp 11))] [3, 5, 6, 7, 8]) (.run [.op (some 12) none (.mov (.tmp 3)), .op (some 13) none (.mov (.tmp 5)), .op (some 14) none (.lenS (.tmp 13)), .op (some 15) none (.cvI .u64 (.tmp 14)), .op (some 16) none (.bsl 1 1 [(.int .u64 0)] [(0, 1, (.tmp 15))]), .call (some 17) none (.fn 38) [(.tmp 16)], .op (some 18) none (.mov (.tmp 5)), .op (some 19) none (.bin .add (.tmp 17) (.tmp 18)), .op (some 20) none (.bin .add (.tmp 12) (.tmp 19)), .op (some 3) none (.mov (.tmp 20))] [3, 6, 7, 8]))) (.run [.op (some 21) none (.bin .add (.tmp 8) (.const (.int .i64 1))), .op (some 8) none (.mov (.tmp 21))] [3, 6, 7, 8]))))))) (.seq (.run [.op (some 22) none (.mov (.tmp 3)), .op (some 2) none (.mov (.tmp 22))] [2]) .ret))))⟩
theorem ok40 : compF Try.prog 40 hi40 = some ir40 := by kernel_rfl
def hi49 : List Hint := [.keep [0, 1], .keep [0, 1, 7, 8], .keep [0, 1, 7, 8], .keep [0, 1, 7, 8, 9], .keep [0, 1, 5, 7, 8], .keep [0, 1, 5, 7, 8, 16], .keep [4], .keep [0, 1, 7, 8], .keep [4]]
def ir49 : IFun := ⟨2, [.tmp 4], (.seq (.run [.op (some 4) none (.mov (.const (.int .i64 0)))] [0, 1]) (.seq (.seq (.run [.op (some 6) none (.mov (.tmp 0)), .op (some 7) none (.lenV (.tmp 6)), .op (some 8) none (.mov (.const (.int .i64 0)))] [0, 1, 7, 8]) (.block 0 (.loop [0, 1, 7, 8] (.seq (.run [.op (some 9) none (.bin .lss (.tmp 8) (.tmp 7))] [0, 1, 7, 8, 9]) (.seq (.cond (.tmp 9) .skip (.exit 0)) (.seq (.block 1 (.seq (.run [.op (some 10) none (.mov (.tmp 8)), .op (some 5) none (.mov (.tmp 10))] [0, 1, 5, 7, 8]) (.seq (.run [.op (some 11) none (.mov (.tmp 1)), .op (some 12) none (.mov (.tmp 0)), .op (some 13) none (.mov (.tmp 5)), .op (some 14) none (.iaV 5 (.tmp 12) (.tmp 13)), .op (some 15) none (.ldN 5 (.tmp 14)), .call (some 16) none (.val (.tmp 11)) [(.tmp 15)]] [0, 1, 5, 7, 8, 16]) (.cond (.tmp 16) (.seq (.run [.op (some 17) none (.mov (.tmp 5)), .op (some 4) none (.mov (.tmp 17))] [4]) .ret) .skip)))) (.run [.op (some 18) none (.bin .add (.tmp 8) (.const (.int .i64 1))), .op (some 8) none (.mov (.tmp 18))] [0, 1, 7, 8]))))))) (.seq (.run [.op (some 4) none (.mov (.const (.int .i64 (-1))))] [4]) .ret)))⟩
theorem ok49 : compF Try.prog 49 hi49 = some ir49 := by kernel_rfl
def hi50 : List Hint := [.keep [1, 2], .keep [3]]
def ir50 : IFun := ⟨2, [.tmp 3], (.seq (.run [.op (some 2) none (.box (.tmp 0)), .op (some 3) none (.mov (.const (.bool false)))] [1, 2]) (.seq (.run [.op (some 4) none (.fa 0 (.tmp 2)), .op (some 5) none (.ld1 (.tmp 4)), .op (some 6) none (.ld1 (.tmp 1)), .op (some 7) none (.bin .eql (.tmp 5) (.tmp 6)), .op (some 3) none (.mov (.tmp 7))] [3]) .ret))⟩
theorem ok50 : compF Try.prog 50 hi50 = some ir50 := by kernel_rfl
def hi51 : List Hint := [.keep [0, 1], .keep [0, 1, 5], .draw [.op 0, .op 1, .op 2, .op 3, .op 4, .op 5, .op 6, .op 7] [0, 1, 5], .draw [.op 0, .op 1, .op 2, .op 3, .op 4, .op 5, .op 6, .op 7] [0, 1, 5], .draw [.op 0, .op 1, .op 2, .op 3, .op 4, .op 5, .op 6, .op 7] [0, 5], .keep [5], .keep [4]]
def ir51 : IFun := ⟨2, [.tmp 4], (.seq (.run [.op (some 4) none (.mov (.const (.int .u64 0)))] [0, 1]) (.seq (.run [.op (some 6) none (.mov (.tmp 1)), .op (some 7) none (.nck (.tmp 6)), .op (some 8) none (.fa 3 (.tmp 7)), .op (some 9) none (.ld1 (.tmp 8)), .op (some 10) none (.lenV (.tmp 9)), .op (some 11) none (.cvI .u64 (.tmp 10)), .op (some 5) none (.new [(.int .u64 0)]), .op none none (.st 1 (.tmp 5) (.tmp 11))] [0, 1, 5]) (.seq (.draw 8 [.op (some 12) none (.mov (.tmp 0)), .op (some 13) none (.mov (.tmp 1)), .op (some 14) none (.nck (.tmp 13)), .op (some 15) none (.fa 0 (.tmp 14)), .op (some 16) none (.mkF (.method "wapentake/cmd.byte") [(.tmp 12)] []), .op (some 17) none (.nckM "wapentake/cmd.byte" [100, 107] (.tmp 16)), .op (some 18) none (.mov (.tmp 12)), .call (some 19) none (.inv (.tmp 18) [(100, 73), (107, 77)]) [(.tmp 15)]] [0, 1, 5]) (.seq (.draw 8 [.op (some 20) none (.mov (.tmp 0)), .op (some 21) none (.mov (.tmp 1)), .op (some 22) none (.nck (.tmp 21)), .op (some 23) none (.fa 1 (.tmp 22)), .op (some 24) none (.mkF (.method "wapentake/cmd.number") [(.tmp 20)] []), .op (some 25) none (.nckM "wapentake/cmd.number" [100, 107] (.tmp 24)), .op (some 26) none (.mov (.tmp 20)), .call (some 27) none (.inv (.tmp 26) [(100, 74), (107, 78)]) [(.tmp 23)]] [0, 1, 5]) (.seq (.draw 8 [.op (some 28) none (.mov (.tmp 0)), .op (some 29) none (.mov (.tmp 1)), .op (some 30) none (.nck (.tmp 29)), .op (some 31) none (.fa 2 (.tmp 30)), .op (some 32) none (.mkF (.method "wapentake/cmd.text") [(.tmp 28)] []), .op (some 33) none (.nckM "wapentake/cmd.text" [100, 107] (.tmp 32)), .op (some 34) none (.mov (.tmp 28)), .call (some 35) none (.inv (.tmp 34) [(100, 75), (107, 79)]) [(.tmp 31)]] [0, 5]) (.seq (.run [.op (some 36) none (.mov (.tmp 0)), .call (some 37) none (.inv (.tmp 36) [(100, 74), (107, 78)]) [(.tmp 5)]] [5]) (.seq (.run [.op (some 38) none (.ld1 (.tmp 5)), .op (some 4) none (.mov (.tmp 38))] [4]) .ret)))))))⟩
theorem ok51 : compF Try.prog 51 hi51 = some ir51 := by kernel_rfl
def hi52 : List Hint := [.draw [.op 0, .op 1, .op 2, .op 3, .op 4, .op 5, .op 6, .op 7] [0, 1], .draw [.op 0, .op 1, .op 2, .op 3, .op 4, .op 5, .op 6, .op 7] [0, 1], .draw [.op 0, .op 1, .op 2, .op 3, .op 4, .op 5, .op 6, .op 7] []]
def ir52 : IFun := ⟨2, [], (.seq (.draw 8 [.op (some 4) none (.mov (.tmp 0)), .op (some 5) none (.mov (.tmp 1)), .op (some 6) none (.nck (.tmp 5)), .op (some 7) none (.fa 0 (.tmp 6)), .op (some 8) none (.mkF (.method "wapentake/cmd.text") [(.tmp 4)] []), .op (some 9) none (.nckM "wapentake/cmd.text" [100, 107] (.tmp 8)), .op (some 10) none (.mov (.tmp 4)), .call (some 11) none (.inv (.tmp 10) [(100, 75), (107, 79)]) [(.tmp 7)]] [0, 1]) (.seq (.draw 8 [.op (some 12) none (.mov (.tmp 0)), .op (some 13) none (.mov (.tmp 1)), .op (some 14) none (.nck (.tmp 13)), .op (some 15) none (.fa 1 (.tmp 14)), .op (some 16) none (.mkF (.method "wapentake/cmd.text") [(.tmp 12)] []), .op (some 17) none (.nckM "wapentake/cmd.text" [100, 107] (.tmp 16)), .op (some 18) none (.mov (.tmp 12)), .call (some 19) none (.inv (.tmp 18) [(100, 75), (107, 79)]) [(.tmp 15)]] [0, 1]) (.draw 8 [.op (some 20) none (.mov (.tmp 0)), .op (some 21) none (.mov (.tmp 1)), .op (some 22) none (.nck (.tmp 21)), .op (some 23) none (.fa 2 (.tmp 22)), .op (some 24) none (.mkF (.method "wapentake/cmd.number") [(.tmp 20)] []), .op (some 25) none (.nckM "wapentake/cmd.number" [100, 107] (.tmp 24)), .op (some 26) none (.mov (.tmp 20)), .call (some 27) none (.inv (.tmp 26) [(100, 74), (107, 78)]) [(.tmp 23)]] [])))⟩
theorem ok52 : compF Try.prog 52 hi52 = some ir52 := by kernel_rfl
def hi53 : List Hint := [.keep [0], .keep [2]]
def ir53 : IFun := ⟨1, [.tmp 2], (.seq (.run [.op (some 2) none (.mov (.const (.bool false)))] [0]) (.seq (.run [.op (some 3) none (.mov (.tmp 0)), .op (some 4) none (.nck (.tmp 3)), .op (some 5) none (.fa 1 (.tmp 4)), .op (some 6) none (.ld1 (.tmp 5)), .op (some 7) none (.un .not (.tmp 6)), .op (some 8) none (.mov (.tmp 7)), .op (some 9) (some (8, true)) (.mov (.tmp 0)), .op (some 10) (some (8, true)) (.nck (.tmp 9)), .op (some 11) (some (8, true)) (.fa 0 (.tmp 10)), .op (some 12) (some (8, true)) (.ld1 (.tmp 11)), .op (some 13) (some (8, true)) (.bin .eql (.tmp 12) (.const (.string ⟨#[]⟩))), .op (some 14) none (.pick (.tmp 8) (.tmp 13) (.const (.bool false))), .op (some 2) none (.mov (.tmp 14))] [2]) .ret))⟩
theorem ok53 : compF Try.prog 53 hi53 = some ir53 := by kernel_rfl
def hi73 : List Hint := [.keep [0, 1, 4], .keep [1, 4, 10], .keep []]
def ir73 : IFun := ⟨2, [], (.seq (.run [.op (some 5) none (.mov (.tmp 0)), .op (some 6) none (.nck (.tmp 5)), .op (some 7) none (.fa 0 (.tmp 6)), .op (some 8) none (.ld1 (.tmp 7)), .op (some 4) none (.mov (.tmp 8))] [0, 1, 4]) (.seq (.run [.op (some 9) none (.mov (.tmp 0)), .call (some 10) none (.fn 76) [(.tmp 9), (.const (.int .i64 1)), (.const (.bool true))]] [1, 4, 10]) (.cond (.tmp 10) (.run [.op (some 11) none (.mov (.tmp 1)), .op (some 12) none (.mov (.tmp 4)), .op (some 13) none (.ixS (.tmp 12) (.const (.int .i64 0))), .op (some 14) none (.nck (.tmp 11)), .op none none (.st 1 (.tmp 14) (.tmp 13))] []) .skip)))⟩
theorem ok73 : compF Try.prog 73 hi73 = some ir73 := by kernel_rfl
def hi74 : List Hint := [.keep [0, 1, 4, 5, 6], .keep [1, 4, 19], .keep []]
def ir74 : IFun := ⟨2, [], (.seq (.run [.op (some 8) none (.mov (.tmp 0)), .op (some 9) none (.nck (.tmp 8)), .op (some 10) none (.fa 0 (.tmp 9)), .op (some 11) none (.ld1 (.tmp 10)), .call (some 12) none (.fn 35) [(.tmp 11)], .op (some 7) none (.mov (.tmp 12)), .op (some 13) none (.ext (.tmp 7) 0), .op (some 14) none (.ext (.tmp 7) 1), .op (some 15) none (.ext (.tmp 7) 2), .op (some 4) none (.mov (.tmp 13)), .op (some 5) none (.mov (.tmp 14)), .op (some 6) none (.mov (.tmp 15))] [0, 1, 4, 5, 6]) (.seq (.run [.op (some 16) none (.mov (.tmp 0)), .op (some 17) none (.mov (.tmp 5)), .op (some 18) none (.mov (.tmp 6)), .call (some 19) none (.fn 76) [(.tmp 16), (.tmp 17), (.tmp 18)]] [1, 4, 19]) (.cond (.tmp 19) (.run [.op (some 20) none (.mov (.tmp 1)), .op (some 21) none (.mov (.tmp 4)), .op (some 22) none (.nck (.tmp 20)), .op none none (.st 1 (.tmp 22) (.tmp 21))] []) .skip)))⟩
theorem ok74 : compF Try.prog 74 hi74 = some ir74 := by kernel_rfl
def hi75 : List Hint := [.keep [0, 1, 4, 5, 6], .keep [1, 4, 19], .keep []]
def ir75 : IFun := ⟨2, [], (.seq (.run [.op (some 8) none (.mov (.tmp 0)), .op (some 9) none (.nck (.tmp 8)), .op (some 10) none (.fa 0 (.tmp 9)), .op (some 11) none (.ld1 (.tmp 10)), .call (some 12) none (.fn 36) [(.tmp 11)], .op (some 7) none (.mov (.tmp 12)), .op (some 13) none (.ext (.tmp 7) 0), .op (some 14) none (.ext (.tmp 7) 1), .op (some 15) none (.ext (.tmp 7) 2), .op (some 4) none (.mov (.tmp 13)), .op (some 5) none (.mov (.tmp 14)), .op (some 6) none (.mov (.tmp 15))] [0, 1, 4, 5, 6]) (.seq (.run [.op (some 16) none (.mov (.tmp 0)), .op (some 17) none (.mov (.tmp 5)), .op (some 18) none (.mov (.tmp 6)), .call (some 19) none (.fn 76) [(.tmp 16), (.tmp 17), (.tmp 18)]] [1, 4, 19]) (.cond (.tmp 19) (.run [.op (some 20) none (.mov (.tmp 1)), .op (some 21) none (.mov (.tmp 4)), .op (some 22) none (.nck (.tmp 20)), .op none none (.st 1 (.tmp 22) (.tmp 21))] []) .skip)))⟩
theorem ok75 : compF Try.prog 75 hi75 = some ir75 := by kernel_rfl
def hi76 : List Hint := [.keep [0, 1, 2], .keep [0, 1], .keep [0, 1, 30], .keep [6], .keep [], .keep [6]]
def ir76 : IFun := ⟨3, [.tmp 6], (.seq (.run [.op (some 6) none (.mov (.const (.bool false)))] [0, 1, 2]) (.seq (.seq (.run [.op (some 7) none (.mov (.tmp 0)), .op (some 8) none (.mov (.tmp 0)), .op (some 9) none (.nck (.tmp 8)), .op (some 10) none (.fa 1 (.tmp 9)), .op (some 11) none (.ld1 (.tmp 10)), .op (some 12) none (.mov (.tmp 11)), .op (some 13) (some (12, false)) (.mov (.tmp 2)), .op (some 14) (some (12, false)) (.un .not (.tmp 13)), .op (some 15) none (.pick (.tmp 12) (.const (.bool true)) (.tmp 14)), .op (some 16) none (.mov (.tmp 15)), .op (some 17) (some (16, false)) (.mov (.tmp 1)), .op (some 18) (some (16, false)) (.mov (.tmp 0)), .op (some 19) (some (16, false)) (.nck (.tmp 18)), .op (some 20) (some (16, false)) (.fa 0 (.tmp 19)), .op (some 21) (some (16, false)) (.ld1 (.tmp 20)), .op (some 22) (some (16, false)) (.lenS (.tmp 21)), .op (some 23) (some (16, false)) (.bin .gtr (.tmp 17) (.tmp 22)), .op (some 24) none (.pick (.tmp 16) (.const (.bool true)) (.tmp 23)), .op (some 25) none (.nck (.tmp 7)), .op (some 26) none (.fa 1 (.tmp 25)), .op none none (.st 1 (.tmp 26) (.tmp 24))] [0, 1]) (.seq (.run [.op (some 27) none (.mov (.tmp 0)), .op (some 28) none (.nck (.tmp 27)), .op (some 29) none (.fa 1 (.tmp 28)), .op (some 30) none (.ld1 (.tmp 29))] [0, 1, 30]) (.cond (.tmp 30) (.seq (.run [.op (some 6) none (.mov (.const (.bool false)))] [6]) .ret) .skip))) (.seq (.run [.op (some 31) none (.mov (.tmp 0)), .op (some 32) none (.mov (.tmp 0)), .op (some 33) none (.nck (.tmp 32)), .op (some 34) none (.fa 0 (.tmp 33)), .op (some 35) none (.ld1 (.tmp 34)), .op (some 36) none (.mov (.tmp 1)), .op (some 37) none (.slS (.tmp 35) (some (.tmp 36)) none), .op (some 38) none (.nck (.tmp 31)), .op (some 39) none (.fa 0 (.tmp 38)), .op none none (.st 1 (.tmp 39) (.tmp 37))] []) (.seq (.run [.op (some 6) none (.mov (.const (.bool true)))] [6]) .ret))))⟩
theorem ok76 : compF Try.prog 76 hi76 = some ir76 := by kernel_rfl
def hi77 : List Hint := [.draw [.op 0, .op 1, .op 2, .op 3, .op 4, .op 5, .op 6, .op 7, .opA 8, .op 9, .op 10, .op 11, .op 12] []]
def ir77 : IFun := ⟨2, [], (.draw 13 [.op (some 4) none (.mov (.tmp 0)), .op (some 5) none (.mov (.tmp 0)), .op (some 6) none (.nck (.tmp 5)), .op (some 7) none (.fa 0 (.tmp 6)), .op (some 8) none (.ld1 (.tmp 7)), .op (some 9) none (.mov (.tmp 1)), .op (some 10) none (.nck (.tmp 9)), .op (some 11) none (.ld1 (.tmp 10)), .opA (some 12) none (.bsl 1 1 [(.int .u8 0)] [(0, 1, (.tmp 11))]) 8, .op (some 13) none (.app 1 1 (.tmp 8) (.tmp 12)), .op (some 14) none (.nck (.tmp 4)), .op (some 15) none (.fa 0 (.tmp 14)), .op none none (.st 1 (.tmp 15) (.tmp 13))] [])⟩
theorem ok77 : compF Try.prog 77 hi77 = some ir77 := by kernel_rfl
def hi78 : List Hint := [.draw [.op 0, .op 1, .op 2, .op 3, .op 4, .op 5, .op 6, .op 7, .opA 8, .op 9, .chk 4, .op 10, .op 11, .op 12, .op 13] []]
def ir78 : IFun := ⟨2, [], (.draw 14 [.op (some 4) none (.mov (.tmp 0)), .op (some 5) none (.mov (.tmp 0)), .op (some 6) none (.nck (.tmp 5)), .op (some 7) none (.fa 0 (.tmp 6)), .op (some 8) none (.ld1 (.tmp 7)), .op (some 9) none (.mov (.tmp 1)), .op (some 10) none (.nck (.tmp 9)), .op (some 11) none (.ld1 (.tmp 10)), .opA (some 12) none (.bsl 1 1 [(.int .u64 0)] [(0, 1, (.tmp 11))]) 8, .call (some 13) none (.fn 38) [(.tmp 12)], .chk 8 none (.ld1 (.tmp 7)), .op (some 14) none (.app 1 1 (.tmp 8) (.tmp 13)), .op (some 15) none (.nck (.tmp 4)), .op (some 16) none (.fa 0 (.tmp 15)), .op none none (.st 1 (.tmp 16) (.tmp 14))] [])⟩
theorem ok78 : compF Try.prog 78 hi78 = some ir78 := by kernel_rfl
def hi79 : List Hint := [.draw [.op 0, .op 1, .op 2, .op 3, .op 4, .op 5, .op 6, .op 7, .opA 8, .op 9, .chk 4, .op 10, .op 11, .op 12, .op 13] []]
def ir79 : IFun := ⟨2, [], (.draw 14 [.op (some 4) none (.mov (.tmp 0)), .op (some 5) none (.mov (.tmp 0)), .op (some 6) none (.nck (.tmp 5)), .op (some 7) none (.fa 0 (.tmp 6)), .op (some 8) none (.ld1 (.tmp 7)), .op (some 9) none (.mov (.tmp 1)), .op (some 10) none (.nck (.tmp 9)), .op (some 11) none (.ld1 (.tmp 10)), .opA (some 12) none (.bsl 1 1 [(.string ⟨#[]⟩)] [(0, 1, (.tmp 11))]) 8, .call (some 13) none (.fn 40) [(.tmp 12)], .chk 8 none (.ld1 (.tmp 7)), .op (some 14) none (.app 1 1 (.tmp 8) (.tmp 13)), .op (some 15) none (.nck (.tmp 4)), .op (some 16) none (.fa 0 (.tmp 15)), .op none none (.st 1 (.tmp 16) (.tmp 14))] [])⟩
theorem ok79 : compF Try.prog 79 hi79 = some ir79 := by kernel_rfl
end Go.Proofs.Ytomaijljeacpjaa.IrAll
namespace Go.Proofs.Ytomaijljeacpjaa.IrAll
open Go Go.Proofs.Ytomaijljeacpjaa.Am
def tabC : Nat → Option FD
  | 4 => some (.code ir4)
  | 10 => some (.code ir10)
  | 11 => some (.code ir11)
  | 12 => some (.code ir12)
  | 13 => some (.code ir13)
  | 15 => some (.code ir15)
  | 16 => some (.code ir16)
  | 17 => some (.code ir17)
  | 29 => some (.code ir29)
  | 30 => some (.code ir30)
  | 31 => some (.code ir31)
  | 32 => some (.code ir32)
  | 33 => some (.code ir33)
  | 35 => some (.code ir35)
  | 36 => some (.code ir36)
  | 38 => some (.code ir38)
  | 40 => some (.code ir40)
  | 49 => some (.code ir49)
  | 50 => some (.code ir50)
  | 51 => some (.code ir51)
  | 52 => some (.code ir52)
  | 53 => some (.code ir53)
  | 73 => some (.code ir73)
  | 74 => some (.code ir74)
  | 75 => some (.code ir75)
  | 76 => some (.code ir76)
  | 77 => some (.code ir77)
  | 78 => some (.code ir78)
  | 79 => some (.code ir79)
  | _ => none
theorem tabCOK : TabOK Try.prog tabC := by
  intro f d h
  unfold tabC at h
  split at h
  · cases h; exact ⟨hi4, ok4⟩
  · cases h; exact ⟨hi10, ok10⟩
  · cases h; exact ⟨hi11, ok11⟩
  · cases h; exact ⟨hi12, ok12⟩
  · cases h; exact ⟨hi13, ok13⟩
  · cases h; exact ⟨hi15, ok15⟩
  · cases h; exact ⟨hi16, ok16⟩
  · cases h; exact ⟨hi17, ok17⟩
  · cases h; exact ⟨hi29, ok29⟩
  · cases h; exact ⟨hi30, ok30⟩
  · cases h; exact ⟨hi31, ok31⟩
  · cases h; exact ⟨hi32, ok32⟩
  · cases h; exact ⟨hi33, ok33⟩
  · cases h; exact ⟨hi35, ok35⟩
  · cases h; exact ⟨hi36, ok36⟩
  · cases h; exact ⟨hi38, ok38⟩
  · cases h; exact ⟨hi40, ok40⟩
  · cases h; exact ⟨hi49, ok49⟩
  · cases h; exact ⟨hi50, ok50⟩
  · cases h; exact ⟨hi51, ok51⟩
  · cases h; exact ⟨hi52, ok52⟩
  · cases h; exact ⟨hi53, ok53⟩
  · cases h; exact ⟨hi73, ok73⟩
  · cases h; exact ⟨hi74, ok74⟩
  · cases h; exact ⟨hi75, ok75⟩
  · cases h; exact ⟨hi76, ok76⟩
  · cases h; exact ⟨hi77, ok77⟩
  · cases h; exact ⟨hi78, ok78⟩
  · cases h; exact ⟨hi79, ok79⟩
  · cases h
theorem mixed : Try.prog.follows .mixedOrders = true := by kernel_rfl
theorem dOK : DrawOK Try.prog := drawOK mixed
def isT : Option (Value × H) → Bool
  | some (.bool true, _) => true
  | _ => false
theorem isT_some {x : Option (Value × H)} (h : isT x = true) : ∃ h2, x = some (.bool true, h2) := by
  unfold isT at h
  split at h
  · exact ⟨_, rfl⟩
  · cases h
theorem awakeRan : isT (runE tabC 4000 10 [] ⟨.leaf, 0⟩) = true := by decide +kernel
def gAw : List Value → H → Option (Value × H) := fun us h => if us = [] then some (.bool true, h) else none
theorem sAw : SoundF Try.prog 10 gAw := by
  obtain ⟨h2, hr⟩ := isT_some awakeRan
  exact SoundF.closed dOK tabCOK (v := .bool true) rfl ⟨4000, hr⟩
def tab0 : Nat → Option FD := fun f => if f = 10 then some (.spec gAw) else tabC f
theorem tab0OK : TabOK Try.prog tab0 := by
  intro f d h
  unfold tab0 at h
  split at h
  · rename_i e; subst e; cases h; exact sAw
  · exact tabCOK f d h
theorem awake_run (h : H) : Ran tab0 10 [] h (.bool true) h := Ran.spec (g := gAw) rfl rfl
end Go.Proofs.Ytomaijljeacpjaa.IrAll
namespace Go.Proofs.Ytomaijljeacpjaa.Am
open Go
set_option linter.unusedVariables false
set_option linter.unusedSimpArgs false
abbrev Seg := List (Nat × Blk)
structure Mem (base h : H) (L : List Seg) (R : List Nat) : Prop where
  wf : ∀ n B, h.get n = some B → n < h.next
  nx : base.next ≤ h.next
  sub : ∀ n B, base.get n = some B → h.get n = some B
  no : ∀ n, n < base.next → base.get n = none → h.get n = none
  own : ∀ p ∈ L.flatten, h.get p.1 = some p.2 ∧ base.next ≤ p.1 ∧ base.get p.1 = none
  nd : (L.flatten.map Prod.fst).Nodup
  res : ∀ n ∈ R, base.next ≤ n ∧ n < h.next ∧ h.get n = none
  rnd : R.Nodup
variable {base h h1 h2 h3 : H} {L L' : List Seg} {R : List Nat} {S : Seg}
theorem Mem.start (wf : ∀ n B, h.get n = some B → n < h.next) : Mem h h [] [] :=
  ⟨wf, Nat.le_refl _, fun _ _ e => e, fun _ _ e => e, fun p hp => by simp at hp, by simp, fun n hn => by simp at hn, by simp⟩
theorem Mem.here (M : Mem base h L R) : Mem h h [] [] := .start M.wf
theorem Mem.bare (M : Mem base h L R) : Mem base h L [] := ⟨M.wf, M.nx, M.sub, M.no, M.own, M.nd, fun n hn => by simp at hn, by simp⟩
theorem Mem.trans (M : Mem base h L R) (N : Mem h h2 L' []) : Mem base h2 (L' ++ L) R := by
  refine ⟨N.wf, Nat.le_trans M.nx N.nx, fun n B e => N.sub n B (M.sub n B e), fun n hn e => N.no n (Nat.lt_of_lt_of_le hn M.nx) (M.no n hn e), fun p hp => ?_, ?_, fun n hn => ?_, M.rnd⟩
  · rw [List.flatten_append, List.mem_append] at hp
    rcases hp with hp | hp
    · obtain ⟨a, b, c⟩ := N.own p hp
      refine ⟨a, Nat.le_trans M.nx b, ?_⟩
      cases e : base.get p.1 with
      | none => rfl
      | some B => have := M.wf _ _ (M.sub _ _ e); omega
    · obtain ⟨a, b, c⟩ := M.own p hp
      exact ⟨N.sub _ _ a, b, c⟩
  · rw [List.flatten_append, List.map_append, List.nodup_append]
    refine ⟨N.nd, M.nd, fun a ha b hb => ?_⟩
    obtain ⟨p, hp, rfl⟩ := List.mem_map.1 ha
    obtain ⟨q, hq, rfl⟩ := List.mem_map.1 hb
    have := (N.own p hp).2.1
    have := M.wf _ _ (M.own q hq).1
    omega
  · obtain ⟨a, b, c⟩ := M.res n hn
    exact ⟨a, Nat.lt_of_lt_of_le b N.nx, N.no n b c⟩
theorem Mem.drop (M : Mem base h (S :: L) R) : Mem base h L R :=
  ⟨M.wf, M.nx, M.sub, M.no, fun p hp => M.own p (by simp only [List.flatten_cons, List.mem_append]; exact .inr hp), by have := M.nd; rw [List.flatten_cons, List.map_append, List.nodup_append] at this; exact this.2.1, M.res, M.rnd⟩
theorem Mem.perm {L2 : List Seg} (M : Mem base h L R) (p : L2.flatten.Perm L.flatten) : Mem base h L2 R :=
  ⟨M.wf, M.nx, M.sub, M.no, fun q hq => M.own q (p.mem_iff.1 hq), (p.map Prod.fst).nodup_iff.2 M.nd, M.res, M.rnd⟩
theorem flatten_erase : ∀ {L : List Seg} {i : Nat}, L[i]? = some S → (S :: L.eraseIdx i).flatten.Perm L.flatten := by
  intro L
  induction L with
  | nil => intro i h; simp at h
  | cons T L ih =>
    intro i h
    cases i with
    | zero => simp at h; subst h; exact List.Perm.refl _
    | succ i =>
      simp at h
      have := ih h
      simp only [List.eraseIdx_cons_succ, List.flatten_cons] at this ⊢
      refine (List.Perm.trans ?_ (List.Perm.append_left T this))
      rw [← List.append_assoc, ← List.append_assoc]
      exact List.Perm.append_right _ List.perm_append_comm
theorem Mem.focus (M : Mem base h L R) (i : Nat) (hi : L[i]? = some S) : Mem base h (S :: L.eraseIdx i) R := M.perm (flatten_erase hi)
theorem Mem.nils (M : Mem base h L R) : Mem base h ([] :: L) R := M.perm (by simp)
theorem mem_flatten {p : Nat × Blk} {i : Nat} (hi : L[i]? = some S) (hp : p ∈ S) : p ∈ L.flatten := List.mem_flatten.2 ⟨S, List.mem_of_getElem? hi, hp⟩
theorem Mem.at {p : Nat} {B : Blk} (M : Mem base h L R) (i : Nat) (hi : L[i]? = some [(p, B)]) : h.get p = some B := (M.own (p, B) (mem_flatten hi (List.mem_singleton.2 rfl))).1
theorem Mem.alloc (M : Mem base h L R) (B : Blk) : Mem base (h.alloc B) ([(h.next, B)] :: L) R := by
  have hn : h.get h.next = none := by
    cases e : h.get h.next with
    | none => rfl
    | some B => have := M.wf _ _ e; omega
  have hb : base.get h.next = none := by
    cases e : base.get h.next with
    | none => rfl
    | some B => rw [M.sub _ _ e] at hn; cases hn
  refine ⟨fun n B' e => ?_, Nat.le_trans M.nx (Nat.le_succ _), fun n B' e => ?_, fun n hn2 e => ?_, fun p hp => ?_, ?_, fun n hn2 => ?_, M.rnd⟩
  · rw [H.get_alloc] at e; show n < h.next + 1
    split at e
    · omega
    · have := M.wf _ _ e; omega
  · exact H.get_old (M.wf _ _ (M.sub _ _ e)) (M.sub _ _ e)
  · rw [H.get_alloc]; have := M.nx
    rw [if_neg (by omega)]; exact M.no n hn2 e
  · rw [List.flatten_cons, List.mem_append] at hp
    rcases hp with hp | hp
    · rw [List.mem_singleton] at hp; subst hp
      exact ⟨H.get_new .., M.nx, hb⟩
    · obtain ⟨a, b, c⟩ := M.own p hp
      exact ⟨H.get_old (M.wf _ _ a) a, b, c⟩
  · rw [List.flatten_cons, List.map_append, List.nodup_append]
    refine ⟨by simp, M.nd, fun a ha b hb => ?_⟩
    simp at ha; subst ha
    obtain ⟨q, hq, rfl⟩ := List.mem_map.1 hb
    have := M.wf _ _ (M.own q hq).1
    omega
  · obtain ⟨a, b, c⟩ := M.res n hn2
    refine ⟨a, Nat.lt_succ_of_lt b, ?_⟩
    rw [H.get_alloc, if_neg (by omega)]; exact c
theorem nodup_reserve {rb : Nat} {ks : List Nat} (h : ks.Nodup) : (ks.map (rb + ·)).Nodup := by
  induction ks with
  | nil => simp
  | cons k ks ih =>
    rw [List.nodup_cons] at h
    rw [List.map_cons, List.nodup_cons]
    refine ⟨fun q => h.1 ?_, ih h.2⟩
    obtain ⟨j, hj, e⟩ := List.mem_map.1 q
    have : j = k := by omega
    subst this; exact hj
theorem Mem.up (M : Mem base h L []) {m : Nat} {ks : List Nat} (hk : (decide (ks.Nodup) && ks.all (fun k => decide (k < m))) = true) : Mem base (h.up m) L (ks.map (h.next + ·)) := by
  rw [Bool.and_eq_true] at hk
  refine ⟨fun n B e => Nat.lt_of_lt_of_le (M.wf n B e) (Nat.le_add_right _ _), Nat.le_trans M.nx (Nat.le_add_right _ _), M.sub, M.no, M.own, M.nd, fun n hn => ?_, nodup_reserve (of_decide_eq_true hk.1)⟩
  obtain ⟨k, hk1, rfl⟩ := List.mem_map.1 hn
  have hlt : k < m := of_decide_eq_true (List.all_eq_true.1 hk.2 k hk1)
  have := M.nx
  refine ⟨by omega, by rw [H.next_up]; omega, ?_⟩
  rw [H.get_up]
  cases e : h.get (h.next + k) with
  | none => rfl
  | some B => have := M.wf _ _ e; omega
theorem Mem.setR (M : Mem base h L R) {n : Nat} (j : Nat) (hj : R[j]? = some n) (B : Blk) : Mem base (h.set n (some B)) ([(n, B)] :: L) (R.eraseIdx j) := by
  have hm : n ∈ R := List.mem_of_getElem? hj
  obtain ⟨r1, r2, r3⟩ := M.res n hm
  have hb : base.get n = none := by
    cases e : base.get n with
    | none => rfl
    | some B => rw [M.sub _ _ e] at r3; cases r3
  refine ⟨fun m B' e => ?_, M.nx, fun m B' e => ?_, fun m hm2 e => ?_, fun p hp => ?_, ?_, fun m hm2 => ?_, M.rnd.sublist (List.eraseIdx_sublist ..)⟩
  · rw [H.get_set] at e; rw [H.next_set]
    split at e
    · rename_i q; subst q; exact r2
    · exact M.wf _ _ e
  · rw [H.get_set_ne _ _ (fun q => by subst q; rw [hb] at e; cases e)]; exact M.sub _ _ e
  · rw [H.get_set_ne _ _ (by omega)]; exact M.no m hm2 e
  · rw [List.flatten_cons, List.mem_append] at hp
    rcases hp with hp | hp
    · rw [List.mem_singleton] at hp; subst hp
      exact ⟨H.get_set_same .., r1, hb⟩
    · obtain ⟨a, b, c⟩ := M.own p hp
      refine ⟨?_, b, c⟩
      rw [H.get_set_ne _ _ (fun q => by rw [q, r3] at a; cases a)]; exact a
  · rw [List.flatten_cons, List.map_append, List.nodup_append]
    refine ⟨by simp, M.nd, fun a ha b hb2 => ?_⟩
    simp at ha; subst ha
    obtain ⟨q, hq, rfl⟩ := List.mem_map.1 hb2
    intro e
    have := (M.own q hq).1
    rw [← e, r3] at this; cases this
  · have hne : m ≠ n := by
      intro e; subst e
      have hlt := (List.getElem?_eq_some_iff.1 hj).1
      have hp := List.getElem?_eq_some_iff.1 hj
      have : (R.eraseIdx j).count m = R.count m - 1 := by
        rw [List.eraseIdx_eq_take_drop_succ]
        have e2 : R = R.take j ++ (m :: R.drop (j + 1)) := by
          rw [← hp.2, List.getElem_cons_drop, List.take_append_drop]
        have e3 : R.count m = (R.take j).count m + (1 + (R.drop (j+1)).count m) := by
          conv => lhs; rw [e2]
          rw [List.count_append, List.count_cons_self]; omega
        rw [List.count_append]; omega
      have h1 : R.count m ≤ 1 := List.nodup_iff_count.1 M.rnd m
      have h2 : 0 < (R.eraseIdx j).count m := List.count_pos_iff.2 hm2
      omega
    obtain ⟨a, b, c⟩ := M.res m ((List.eraseIdx_sublist ..).subset hm2)
    exact ⟨a, b, by rw [H.get_set_ne _ _ hne]; exact c⟩
theorem Mem.set {S1 S2 : Seg} {p : Nat} {B : Blk} (M : Mem base h ((S1 ++ (p, B) :: S2) :: L) R) (B' : Blk) : Mem base (h.set p (some B')) ((S1 ++ (p, B') :: S2) :: L) R := by
  obtain ⟨o1, o2, o3⟩ := M.own (p, B) (by simp)
  have hnd := M.nd
  have eq : ∀ X : Blk, ((S1 ++ (p, X) :: S2) :: L).flatten.map Prod.fst = S1.map Prod.fst ++ p :: (S2.map Prod.fst ++ L.flatten.map Prod.fst) := fun X => by simp
  rw [eq] at hnd
  have hne : ∀ q ∈ S1 ++ S2 ++ L.flatten, q.1 ≠ p := by
    intro q hq e
    rw [List.nodup_append, List.nodup_cons] at hnd
    obtain ⟨d1, ⟨d2, d3⟩, d4⟩ := hnd
    simp only [List.mem_append] at hq
    rcases hq with (hq | hq) | hq
    · exact d4 q.1 (List.mem_map_of_mem hq) p (List.mem_cons_self ..) e
    · exact d2 (by rw [← e]; exact List.mem_append_left _ (List.mem_map_of_mem hq))
    · exact d2 (by rw [← e]; exact List.mem_append_right _ (List.mem_map_of_mem hq))
  refine ⟨fun m X e => ?_, M.nx, fun m X e => ?_, fun m hm e => ?_, fun q hq => ?_, by rw [eq]; exact hnd, fun n hn => ?_, M.rnd⟩
  · rw [H.get_set] at e; rw [H.next_set]
    split at e
    · rename_i q; subst q; exact M.wf _ _ o1
    · exact M.wf _ _ e
  · rw [H.get_set_ne _ _ (fun q => by subst q; rw [o3] at e; cases e)]; exact M.sub _ _ e
  · have : base.next ≤ p := o2
    rw [H.get_set_ne _ _ (by omega)]; exact M.no m hm e
  · simp only [List.flatten_cons, List.mem_append, List.mem_cons] at hq
    have ot : ∀ q, q ∈ S1 ++ S2 ++ L.flatten → (h.set p (some B')).get q.1 = some q.2 ∧ base.next ≤ q.1 ∧ base.get q.1 = none := fun q hq => by
      rw [H.get_set_ne _ _ (hne q hq)]
      refine M.own q ?_
      simp only [List.flatten_cons, List.mem_append, List.mem_cons] at hq ⊢
      rcases hq with (a | a) | a
      · exact .inl (.inl a)
      · exact .inl (.inr (.inr a))
      · exact .inr a
    rcases hq with (a | a | a) | a
    · exact ot q (by simp only [List.mem_append]; exact .inl (.inl a))
    · subst a; exact ⟨H.get_set_same .., o2, o3⟩
    · exact ot q (by simp only [List.mem_append]; exact .inl (.inr a))
    · exact ot q (by simp only [List.mem_append]; exact .inr a)
  · obtain ⟨a, b, c⟩ := M.res n hn
    refine ⟨a, b, ?_⟩
    rw [H.get_set_ne _ _ (fun q => by subst q; rw [c] at o1; cases o1)]; exact c
theorem Mem.free {S1 S2 : Seg} {p : Nat} {B : Blk} (M : Mem base h ((S1 ++ (p, B) :: S2) :: L) R) : Mem base (h.set p none) ((S1 ++ S2) :: L) R := by
  have N := M.set B
  obtain ⟨o1, o2, o3⟩ := M.own (p, B) (by simp)
  have hnd := M.nd
  have eq : ((S1 ++ (p, B) :: S2) :: L).flatten.map Prod.fst = S1.map Prod.fst ++ p :: (S2.map Prod.fst ++ L.flatten.map Prod.fst) := by simp
  rw [eq] at hnd
  have hne : ∀ q ∈ S1 ++ S2 ++ L.flatten, q.1 ≠ p := by
    intro q hq e
    rw [List.nodup_append, List.nodup_cons] at hnd
    obtain ⟨d1, ⟨d2, d3⟩, d4⟩ := hnd
    simp only [List.mem_append] at hq
    rcases hq with (hq | hq) | hq
    · exact d4 q.1 (List.mem_map_of_mem hq) p (List.mem_cons_self ..) e
    · exact d2 (by rw [← e]; exact List.mem_append_left _ (List.mem_map_of_mem hq))
    · exact d2 (by rw [← e]; exact List.mem_append_right _ (List.mem_map_of_mem hq))
  refine ⟨fun m X e => ?_, M.nx, fun m X e => ?_, fun m hm e => ?_, fun q hq => ?_, ?_, fun n hn => ?_, M.rnd⟩
  · rw [H.get_set] at e; rw [H.next_set]
    split at e
    · cases e
    · exact M.wf _ _ e
  · rw [H.get_set_ne _ _ (fun q => by subst q; rw [o3] at e; cases e)]; exact M.sub _ _ e
  · have : base.next ≤ p := o2
    rw [H.get_set_ne _ _ (by omega)]; exact M.no m hm e
  · have hq2 : q ∈ S1 ++ S2 ++ L.flatten := by simpa using hq
    rw [H.get_set_ne _ _ (hne q hq2)]
    refine M.own q ?_
    simp only [List.flatten_cons, List.mem_append, List.mem_cons] at hq2 ⊢
    rcases hq2 with (a | a) | a
    · exact .inl (.inl a)
    · exact .inl (.inr (.inr a))
    · exact .inr a
  · have : ((S1 ++ S2) :: L).flatten.map Prod.fst = S1.map Prod.fst ++ (S2.map Prod.fst ++ L.flatten.map Prod.fst) := by simp
    rw [this]
    rw [List.nodup_append, List.nodup_cons] at hnd
    rw [List.nodup_append]
    exact ⟨hnd.1, hnd.2.1.2, fun a ha b hb => hnd.2.2 a ha b (List.mem_cons_of_mem _ hb)⟩
  · obtain ⟨a, b, c⟩ := M.res n hn
    refine ⟨a, b, ?_⟩
    rw [H.get_set]; split
    · rfl
    · exact c
variable {tab : Nat → Option FD} {Q : Ex → Env → H → Prop} {q : Env → H → Prop} {e e2 : Env}
def Cll (tab : Nat → Option FD) (f : Nat) (us : List Value) (h : H) (P : Value → H → Prop) : Prop := ∃ v h2, Ran tab f us h v h2 ∧ P v h2
def WC (tab : Nat → Option FD) (ic : IC) (e : Env) (h : H) (Q : Ex → Env → H → Prop) : Prop := ∃ x e2 h2, RanC tab ic e h x e2 h2 ∧ Q x e2 h2
def WS (tab : Nat → Option FD) (rb : Nat) (ss : List Step) (e : Env) (h : H) (q : Env → H → Prop) : Prop := ∃ e2 h2, RanS tab rb ss e h e2 h2 ∧ q e2 h2
def thenQ (tab : Nat → Option FD) (b : IC) (Q : Ex → Env → H → Prop) : Ex → Env → H → Prop
  | .norm, e, h => WC tab b e h Q
  | x, e, h => Q x e h
def blockQ (id : Nat) (Q : Ex → Env → H → Prop) : Ex → Env → H → Prop
  | .exit j, e, h => if j = id then Q .norm e h else Q (.exit j) e h
  | x, e, h => Q x e h
def endQ (rs : List RV) (P : Value → H → Prop) : Ex → Env → H → Prop
  | .exit _, _, _ => False
  | _, e, h => ∃ vs, resE rs e h = some vs ∧ P (packE vs) h
theorem Cll.code {f : Nat} {F : IFun} {us : List Value} {P : Value → H → Prop} (ht : tab f = some (.code F)) (hl : us.length = F.np) (w : WC tab F.body (mkEnv 0 us) h (endQ F.rs P)) : Cll tab f us h P := by
  obtain ⟨x, e2, h2, r, k⟩ := w
  cases x with
  | norm => obtain ⟨vs, e, p⟩ := k; exact ⟨_, h2, .codeN ht hl r e, p⟩
  | exit id => exact k.elim
  | ret => obtain ⟨vs, e, p⟩ := k; exact ⟨_, h2, .codeR ht hl r e, p⟩
theorem WC.skip (k : Q .norm e h) : WC tab .skip e h Q := ⟨_, _, _, .skip, k⟩
theorem WC.ret (k : Q .ret e h) : WC tab .ret e h Q := ⟨_, _, _, .ret, k⟩
theorem WC.exit {id : Nat} (k : Q (.exit id) e h) : WC tab (.exit id) e h Q := ⟨_, _, _, .exit, k⟩
theorem WC.seq {a b : IC} (k : WC tab a e h (thenQ tab b Q)) : WC tab (.seq a b) e h Q := by
  obtain ⟨x, e2, h2, r, k⟩ := k
  cases x with
  | norm => obtain ⟨y, e3, h3, r2, k2⟩ := k; exact ⟨_, _, _, .seq r r2, k2⟩
  | exit id => exact ⟨_, _, _, .seqE r, k⟩
  | ret => exact ⟨_, _, _, .seqR r, k⟩
theorem WC.condT {c : Operand} {a b : IC} (hc : ev e c = some (.bool true)) (k : WC tab a e h Q) : WC tab (.cond c a b) e h Q := by
  obtain ⟨x, e2, h2, r, k⟩ := k; exact ⟨x, e2, h2, .condT hc r, k⟩
theorem WC.condF {c : Operand} {a b : IC} (hc : ev e c = some (.bool false)) (k : WC tab b e h Q) : WC tab (.cond c a b) e h Q := by
  obtain ⟨x, e2, h2, r, k⟩ := k; exact ⟨x, e2, h2, .condF hc r, k⟩
theorem WC.block {id : Nat} {b : IC} (k : WC tab b e h (blockQ id Q)) : WC tab (.block id b) e h Q := by
  obtain ⟨x, e2, h2, r, k⟩ := k
  cases x with
  | norm => exact ⟨_, _, _, .blockN r, k⟩
  | ret => exact ⟨_, _, _, .blockR r, k⟩
  | exit j =>
    simp only [blockQ] at k
    split at k
    · rename_i q; subst q; exact ⟨_, _, _, .blockE r, k⟩
    · rename_i q; exact ⟨_, _, _, .blockO q r, k⟩
def loopQ {σ : Type} (keep : List Nat) (E : σ → Env) (I : σ → H → Prop) (μ : σ → Nat) (s : σ) (Q : Ex → Env → H → Prop) : Ex → Env → H → Prop
  | .norm, e, h => ∃ s', norm keep e = E s' ∧ I s' h ∧ μ s' < μ s
  | x, e, h => Q x e h
theorem WC.loop {σ : Type} {keep : List Nat} {b : IC} (E : σ → Env) (I : σ → H → Prop) (μ : σ → Nat) (s0 : σ) (hn : norm keep e = E s0) (hi : I s0 h)
    (step : ∀ s h, I s h → WC tab b (E s) h (loopQ keep E I μ s Q)) : WC tab (.loop keep b) e h Q := by
  generalize hm : μ s0 = m
  induction m using Nat.strongRecOn generalizing s0 e h with
  | _ m ih =>
    obtain ⟨x, e2, h2, r, k⟩ := step s0 h hi
    cases x with
    | norm =>
      obtain ⟨s', k1, k2, k3⟩ := k
      obtain ⟨y, e3, h3, r2, p⟩ := ih (μ s') (by omega) s' k1 k2 rfl
      exact ⟨y, e3, h3, .loop hn r r2, p⟩
    | exit id => exact ⟨_, _, _, .loopE hn r, k⟩
    | ret => exact ⟨_, _, _, .loopR hn r, k⟩
theorem WC.run {ss : List Step} {keep : List Nat} (k : WS tab 0 ss e h (fun e1 h1 => Q .norm (norm keep e1) h1)) : WC tab (.run ss keep) e h Q := by
  obtain ⟨e2, h2, r, k⟩ := k; exact ⟨_, _, _, .run _ r rfl, k⟩
theorem WC.draw {m : Nat} {ss : List Step} {keep : List Nat} (M : Mem base h L []) (ks : List Nat) (hk : (decide (ks.Nodup) && ks.all (fun k => decide (k < m))) = true)
    (k : ∀ rb h1, Mem base h1 L (ks.map (rb + ·)) → WS tab rb ss e h1 (fun e1 h1 => Q .norm (norm keep e1) h1)) : WC tab (.draw m ss keep) e h Q := by
  obtain ⟨e2, h2, r, k⟩ := k h.next (h.up m) (M.up hk); exact ⟨_, _, _, .draw _ r rfl, k⟩
variable {rb : Nat} {ss : List Step} {d : Option Nat} {g : Option (Nat × Bool)}
theorem WS.nil {keep : List Nat} (e2 : Env) (hn : norm keep e = e2) (k : Q .norm e2 h) : WS tab rb [] e h (fun e1 h1 => Q .norm (norm keep e1) h1) := ⟨_, _, .nil, by show Q .norm (norm keep e) h; rw [hn]; exact k⟩
theorem WS.op {i : IOp} {v : Value} (hg : gd e g = some true) (ho : opE i e h none = some (v, h1)) (k : WS tab rb ss (put e d v) h1 q) : WS tab rb (.op d g i :: ss) e h q := by
  obtain ⟨e2, h2, r, p⟩ := k; exact ⟨e2, h2, .op hg ho r, p⟩
theorem WS.opV {i : IOp} {v : Value} (v' : Value) (hg : gd e g = some true) (ho : opE i e h none = some (v, h1)) (hv : v = v') (k : WS tab rb ss (put e d v') h1 q) : WS tab rb (.op d g i :: ss) e h q := by
  subst hv; exact .op hg ho k
theorem WS.off {i : IOp} (hg : gd e g = some false) (k : WS tab rb ss (put e d undef) h q) : WS tab rb (.op d g i :: ss) e h q := by
  obtain ⟨e2, h2, r, p⟩ := k; exact ⟨e2, h2, .off hg r, p⟩
theorem WS.offC {c : CK} {xs : List Operand} (hg : gd e g = some false) (k : WS tab rb ss (put e d undef) h q) : WS tab rb (.call d g c xs :: ss) e h q := by
  obtain ⟨e2, h2, r, p⟩ := k; exact ⟨e2, h2, .offC hg r, p⟩
theorem WS.call {c : CK} {xs : List Operand} {vs us : List Value} {f : Nat} {P : Value → H → Prop} (hg : gd e g = some true) (hx : evs e xs = some vs) (hw : whom c e vs = some (f, us)) (hc : Cll tab f us h P) (k : ∀ v h2, P v h2 → WS tab rb ss (put e d v) h2 q) : WS tab rb (.call d g c xs :: ss) e h q := by
  obtain ⟨v, h2, r, p⟩ := hc
  obtain ⟨e3, h3, r2, p2⟩ := k v h2 p
  exact ⟨e3, h3, .call hg hx hw r r2, p2⟩
theorem WS.box {x : Operand} {v : Value} (M : Mem base h L R) (cs : List Value) (hg : gd e g = some true) (hx : ev e x = some v) (hc : v.cells.toList = cs) (ho : cs.all (·.oneCell') = true)
    (k : ∀ p h1, Mem base h1 ([(p, ⟨cs, 0, false⟩)] :: L) R → WS tab rb ss (put e d (.pointer (some ⟨p, 0, none⟩))) h1 q) : WS tab rb (.op d g (.box x) :: ss) e h q :=
  .op hg (op_box h.next hx hc ho rfl) (k _ _ (M.alloc _))
theorem WS.new {z : List Value} (M : Mem base h L R) (hg : gd e g = some true)
    (k : ∀ p h1, Mem base h1 ([(p, ⟨z, 0, false⟩)] :: L) R → WS tab rb ss (put e d (.pointer (some ⟨p, 0, none⟩))) h1 q) : WS tab rb (.op d g (.new z) :: ss) e h q :=
  .op hg (op_new h.next rfl) (k _ _ (M.alloc _))
theorem WS.bsl {es len : Nat} {z : List Value} {ps : List (Nat × Nat × Operand)} {l : List (Nat × Nat × Value)} (M : Mem base h L R) (cs : List Value) (hg : gd e g = some true) (hp : evp e ps = some l) (hf : fillL z l = some cs) (ho : cs.all (·.oneCell') = true)
    (k : ∀ p h1, Mem base h1 ([(p, ⟨cs, es, false⟩)] :: L) R → WS tab rb ss (put e d (.slice (some ⟨p, 0, none⟩) len (2 * len + 1))) h1 q) : WS tab rb (.op d g (.bsl es len z ps) :: ss) e h q :=
  .op hg (op_bsl h.next hp hf ho rfl) (k _ _ (M.alloc _))
theorem WS.bslA {n es len : Nat} {z : List Value} {ps : List (Nat × Nat × Operand)} {l : List (Nat × Nat × Value)} (M : Mem base h L R) (cs : List Value) (j : Nat) (hj : R[j]? = some (rb + n)) (hg : gd e g = some true) (hp : evp e ps = some l) (hf : fillL z l = some cs) (ho : cs.all (·.oneCell') = true)
    (k : ∀ h1, Mem base h1 ([(rb + n, ⟨cs, es, false⟩)] :: L) (R.eraseIdx j) → WS tab rb ss (put e d (.slice (some ⟨rb + n, 0, none⟩) len (2 * len + 1))) h1 q) : WS tab rb (.opA d g (.bsl es len z ps) n :: ss) e h q := by
  obtain ⟨e2, h2, r, p⟩ := k _ (M.setR j hj ⟨cs, es, false⟩)
  exact ⟨e2, h2, .opA hg (op_bslA (rb + n) hp hf ho rfl) r, p⟩
theorem op_ld {x : Operand} {p off : Nat} {B : Blk} {v : Value} (hb : h.get p = some B) (hx : ev e x = some (.pointer (some ⟨p, off, none⟩))) (hc : B.cells[off]? = some v) : opE (.ld1 x) e h none = some (v, h) := op_ld1 hx (ld_at hb hc)
theorem op_lds {x : Operand} {p off n : Nat} {B : Blk} (cs : List Value) (hb : h.get p = some B) (hx : ev e x = some (.pointer (some ⟨p, off, none⟩))) (hle : off + n ≤ B.cells.length) (hc : (B.cells.drop off).take n = cs) : opE (.ldN n x) e h none = some (.agg cs.toArray, h) := by
  rw [← hc]; exact op_ldN hx (lds_at hb hle)
theorem WS.st {S1 S2 : Seg} {p off n : Nat} {B : Blk} {x y : Operand} {v : Value} (M : Mem base h ((S1 ++ (p, B) :: S2) :: L) R) (vs cs : List Value) (hg : gd e g = some true) (hx : ev e x = some (.pointer (some ⟨p, off, none⟩))) (hy : ev e y = some v) (hv : v.cells.toList = vs) (hn : vs.length = n) (hp : 0 < n) (hr : B.ro = false)
    (hle : off + n ≤ B.cells.length) (ho : vs.all (·.oneCell') = true) (hc : splice B.cells off vs = cs)
    (k : ∀ h1, Mem base h1 ((S1 ++ (p, ⟨cs, B.es, false⟩) :: S2) :: L) R → WS tab rb ss (put e d undef) h1 q) : WS tab rb (.op d g (.st n x y) :: ss) e h q := by
  have hb : h.get p = some B := (M.own (p, B) (by simp)).1
  subst hn
  refine .op hg (op_st hx hy (by rw [hv]) (h2 := h.set p (some ⟨cs, B.es, false⟩)) ?_) (k _ (M.set _))
  rw [hv, ← hc]
  match vs, hp, hle, ho with
  | v :: vs, _, hle, ho => exact sts_at hb hr hle ho
theorem op_ldH {x : Operand} {a : Addr} {v : Value} (hx : ev e x = some (.pointer (some a))) (hl : h.ld a = some v) : opE (.ld1 x) e h none = some (v, h) := op_ld1 hx hl
variable {k : IntKind} {a b : Int} {x y : Operand}
theorem op_bin2 {op : BinOp} {v w z : Value} (hx : ev e x = some v) (hy : ev e y = some w) (hv : binV op v w = some z) : opE (.bin op x y) e h none = some (z, h) := op_bin hx hy hv
theorem vb_t {p : Prop} [Decidable p] (hp : p) : Value.bool (decide p) = Value.bool true := by rw [decide_eq_true hp]
theorem vb_f {p : Prop} [Decidable p] (hp : ¬ p) : Value.bool (decide p) = Value.bool false := by rw [decide_eq_false hp]
theorem WS.lss (hg : gd e g = some true) (hx : ev e x = some (.int k a)) (hy : ev e y = some (.int k b)) (kt : a < b → WS tab rb ss (put e d (.bool true)) h q) (kf : b ≤ a → WS tab rb ss (put e d (.bool false)) h q) : WS tab rb (.op d g (.bin .lss x y) :: ss) e h q := by
  by_cases c : a < b
  · exact .opV _ hg (op_bin2 (z := .bool (decide (a < b))) hx hy (by simp [binV])) (vb_t c) (kt c)
  · exact .opV _ hg (op_bin2 (z := .bool (decide (a < b))) hx hy (by simp [binV])) (vb_f c) (kf (by omega))
theorem WS.gtr (hg : gd e g = some true) (hx : ev e x = some (.int k a)) (hy : ev e y = some (.int k b)) (kt : b < a → WS tab rb ss (put e d (.bool true)) h q) (kf : a ≤ b → WS tab rb ss (put e d (.bool false)) h q) : WS tab rb (.op d g (.bin .gtr x y) :: ss) e h q := by
  by_cases c : a > b
  · exact .opV _ hg (op_bin2 (z := .bool (decide (a > b))) hx hy (by simp [binV])) (vb_t c) (kt c)
  · exact .opV _ hg (op_bin2 (z := .bool (decide (a > b))) hx hy (by simp [binV])) (vb_f c) (kf (by omega))
theorem WS.eql (hg : gd e g = some true) (hx : ev e x = some (.int k a)) (hy : ev e y = some (.int k b)) (kt : a = b → WS tab rb ss (put e d (.bool true)) h q) (kf : a ≠ b → WS tab rb ss (put e d (.bool false)) h q) : WS tab rb (.op d g (.bin .eql x y) :: ss) e h q := by
  by_cases c : a = b
  · exact .opV _ hg (op_bin2 (z := .bool (a == b)) hx hy (by simp [binV])) (by simp [c]) (kt c)
  · exact .opV _ hg (op_bin2 (z := .bool (a == b)) hx hy (by simp [binV])) (by simp [c]) (kf c)
theorem WS.neq (hg : gd e g = some true) (hx : ev e x = some (.int k a)) (hy : ev e y = some (.int k b)) (kt : a ≠ b → WS tab rb ss (put e d (.bool true)) h q) (kf : a = b → WS tab rb ss (put e d (.bool false)) h q) : WS tab rb (.op d g (.bin .neq x y) :: ss) e h q := by
  by_cases c : a = b
  · exact .opV _ hg (op_bin2 (z := .bool (a != b)) hx hy (by simp [binV])) (by simp [c]) (kf c)
  · exact .opV _ hg (op_bin2 (z := .bool (a != b)) hx hy (by simp [binV])) (by simp [c]) (kt c)
def bs (l : List UInt8) : ByteArray := ⟨l.toArray⟩
theorem bs_size (l : List UInt8) : (bs l).size = l.length := by simp [bs, ByteArray.size]
theorem bs_toList_loop (l : List UInt8) : ∀ (k i : Nat) (acc : List UInt8), i + k = l.length → ByteArray.toList.loop (bs l) i acc = acc.reverse ++ l.drop i := by
  intro k
  induction k with
  | zero =>
    intro i acc hi
    unfold ByteArray.toList.loop
    rw [bs_size, if_neg (by omega), List.drop_of_length_le (by omega), List.append_nil]
  | succ k ih =>
    intro i acc hi
    unfold ByteArray.toList.loop
    rw [bs_size, if_pos (by omega), ih (i + 1) _ (by omega), List.reverse_cons, List.append_assoc]
    congr 1
    have hget : (bs l).get! i = l[i] := by
      show (l.toArray)[i]! = l[i]
      simp [getElem!_pos, show i < l.length by omega]
    rw [hget, List.drop_eq_getElem_cons (show i < l.length by omega)]; rfl
theorem bs_toList (l : List UInt8) : (bs l).toList = l := by
  show ByteArray.toList.loop (bs l) 0 [] = l
  rw [bs_toList_loop l l.length 0 [] (by omega)]; simp
theorem bs_extract (l : List UInt8) (i j : Nat) : (bs l).extract i j = bs ((l.take j).drop i) := by
  apply ByteArray.ext; simp [bs, List.drop_take]
theorem bs_get (l : List UInt8) (i : Nat) : (bs l)[i]? = l[i]? := by
  by_cases h : i < l.length
  · rw [List.getElem?_eq_getElem h, getElem?_pos (bs l) i (by rw [bs_size]; exact h)]; simp [bs]; rfl
  · rw [List.getElem?_eq_none (by omega), getElem?_neg (bs l) i (by rw [bs_size]; exact h)]
theorem WS.seql {l m : List UInt8} (hg : gd e g = some true) (hx : ev e x = some (.string (bs l))) (hy : ev e y = some (.string (bs m))) (kt : l = m → WS tab rb ss (put e d (.bool true)) h q) (kf : l ≠ m → WS tab rb ss (put e d (.bool false)) h q) : WS tab rb (.op d g (.bin .eql x y) :: ss) e h q := by
  have hv : binV .eql (.string (bs l)) (.string (bs m)) = some (.bool (l == m)) := by simp only [binV, bs_toList]
  by_cases c : l = m
  · exact .opV _ hg (op_bin2 hx hy hv) (by simp [c]) (kt c)
  · exact .opV _ hg (op_bin2 hx hy hv) (by simp [c]) (kf c)
theorem op_lenS {l : List UInt8} (hx : ev e x = some (.string (bs l))) : opE (.lenS x) e h none = some (.int .i64 (l.length : Int), h) := by simp only [opE, hx, bs_size]
theorem op_ixS {l : List UInt8} {c : UInt8} (i : Nat) (hx : ev e x = some (.string (bs l))) (hy : ev e y = some (.int k (i : Int))) (hc : l[i]? = some c) : opE (.ixS x y) e h none = some (.int .u8 (c.toNat : Int), h) := by
  simp only [opE, hx, hy]; rw [if_pos (by omega), Int.toNat_natCast, bs_get, hc]
theorem op_slS {l : List UInt8} {lo hi : Option Operand} (a b : Option Nat) (hx : ev e x = some (.string (bs l))) (ha : bnd e lo = some a) (hb : bnd e hi = some b) (h1 : a.getD 0 ≤ b.getD l.length) (h2 : b.getD l.length ≤ l.length) : opE (.slS x lo hi) e h none = some (.string (bs ((l.take (b.getD l.length)).drop (a.getD 0))), h) := by
  simp only [opE, hx, ha, hb, bs_size]; rw [if_pos ⟨h1, h2⟩, bs_extract]
theorem bnd_nat {i : Nat} (hx : ev e x = some (.int k (i : Int))) : bnd e (some x) = some (some i) := by
  simp only [bnd, hx]; rw [if_pos (by omega)]; simp
theorem op_slS0 {l : List UInt8} (i : Nat) (hx : ev e x = some (.string (bs l))) (hy : ev e y = some (.int k (i : Int))) (hi : i ≤ l.length) : opE (.slS x (some y) none) e h none = some (.string (bs (l.drop i)), h) := by
  have := op_slS (h := h) (hi := none) (some i) none hx (bnd_nat hy) rfl (by simpa using hi) (by simp)
  simpa using this
theorem op_slS2 {l : List UInt8} {z : Operand} {k2 : IntKind} (i j : Nat) (hx : ev e x = some (.string (bs l))) (hy : ev e y = some (.int k (i : Int))) (hz : ev e z = some (.int k2 (j : Int))) (hi : i ≤ j) (hj : j ≤ l.length) : opE (.slS x (some y) (some z)) e h none = some (.string (bs ((l.take j).drop i)), h) := by
  have := op_slS (h := h) (some i) (some j) hx (bnd_nat hy) (bnd_nat hz) (by simpa using hi) (by simpa using hj)
  simpa using this
theorem op_iaV2 {p n c es : Nat} {o : Nat} (j : Nat) (hx : ev e x = some (.slice (some ⟨p, o, none⟩) n c)) (hi : ev e y = some (.int k (j : Int))) (hj : j < n) : opE (.iaV es x y) e h none = some (.pointer (some ⟨p, o + j * es, none⟩), h) := op_iaV j hx hi hj
end Go.Proofs.Ytomaijljeacpjaa.Am
namespace Go.Proofs.Ytomaijljeacpjaa.Am
open Go
set_option linter.unusedVariables false
set_option linter.unusedSimpArgs false
variable {base h h1 h2 h3 : H} {L L' : List Seg} {R : List Nat} {S : Seg}
variable {tab : Nat → Option FD} {Q : Ex → Env → H → Prop} {q : Env → H → Prop} {e e2 : Env}
variable {rb : Nat} {ss : List Step} {d : Option Nat} {g : Option (Nat × Bool)}
theorem Mem.name (M : Mem base h L R) : ∃ L', L' = L ∧ Mem base h L' R := ⟨L, rfl, M⟩
theorem Mem.name1 (M : Mem base h (S :: L) R) : ∃ L', L' = L ∧ Mem base h (S :: L') R := ⟨L, rfl, M⟩
theorem Mem.name2 {S2 : Seg} (M : Mem base h (S :: S2 :: L) R) : ∃ L', L' = L ∧ Mem base h (S :: S2 :: L') R := ⟨L, rfl, M⟩
theorem Mem.name3 {S2 S3 : Seg} (M : Mem base h (S :: S2 :: S3 :: L) R) : ∃ L', L' = L ∧ Mem base h (S :: S2 :: S3 :: L') R := ⟨L, rfl, M⟩
theorem Mem.take (M : Mem base h L R) (k : Nat) : Mem base h (L.take k) R := by
  have hs : (L.take k).flatten.Sublist L.flatten := by
    conv => rhs; rw [← List.take_append_drop k L, List.flatten_append]
    exact List.sublist_append_left ..
  exact ⟨M.wf, M.nx, M.sub, M.no, fun p hp => M.own p (hs.subset hp), M.nd.sublist (hs.map _), M.res, M.rnd⟩
theorem WC.env {ic : IC} (e2 : Env) (he : e = e2) (k : WC tab ic e2 h Q) : WC tab ic e h Q := by rw [he]; exact k
theorem res_nil : resE [] e h = some [] := rfl
theorem res_tmp {t : Nat} {rs : List RV} {v : Value} {vs : List Value} (hl : look e t = some v) (k : resE rs e h = some vs) : resE (.tmp t :: rs) e h = some (v :: vs) := by simp only [resE, hl, k]
theorem res_cellN {t p off n : Nat} {rs : List RV} {B : Blk} {vs : List Value} (cs : List Value) (hl : look e t = some (.pointer (some ⟨p, off, none⟩))) (hb : h.get p = some B) (hle : off + n ≤ B.cells.length) (hc : (B.cells.drop off).take n = cs) (k : resE rs e h = some vs) : resE (.cell t (some n) :: rs) e h = some (.agg cs.toArray :: vs) := by
  simp only [resE, hl, lds_at hb hle, hc, k]
theorem WS.st1 {p off n es : Nat} {cells : List Value} {x y : Operand} {v : Value} (M : Mem base h ([(p, ⟨cells, es, false⟩)] :: L) R) (vs cs : List Value) (hg : gd e g = some true) (hx : ev e x = some (.pointer (some ⟨p, off, none⟩))) (hy : ev e y = some v) (hv : v.cells.toList = vs) (hn : vs.length = n) (hp : 0 < n)
    (hle : off + n ≤ cells.length) (ho : vs.all (·.oneCell') = true) (hc : splice cells off vs = cs)
    (k : ∀ h1, Mem base h1 ([(p, ⟨cs, es, false⟩)] :: L) R → WS tab rb ss (put e d undef) h1 q) : WS tab rb (.op d g (.st n x y) :: ss) e h q :=
  WS.st (S1 := []) (S2 := []) M vs cs hg hx hy hv hn hp rfl hle ho hc k
theorem WS.nil' (k : q e h) : WS tab rb [] e h q := ⟨_, _, .nil, k⟩
theorem WC.joinB {ss : List Step} {keep : List Nat} (E : Bool → Env) (L : List Seg) (Pt Pf : Prop) (w : WS tab 0 ss e h (fun e1 h1 => ∃ b, norm keep e1 = E b ∧ Mem base h1 L [] ∧ (b = true → Pt) ∧ (b = false → Pf)))
    (kt : ∀ h1, Mem base h1 L [] → Pt → Q .norm (E true) h1) (kf : ∀ h1, Mem base h1 L [] → Pf → Q .norm (E false) h1) : WC tab (.run ss keep) e h Q := by
  refine .run ?_
  obtain ⟨e2, h2, r, b, k1, k2, k3, k4⟩ := w
  refine ⟨e2, h2, r, ?_⟩
  show Q .norm (norm keep e2) h2
  rw [k1]
  cases b with
  | true => exact kt _ k2 (k3 rfl)
  | false => exact kf _ k2 (k4 rfl)
theorem WS.lssN {x y : Operand} {k : IntKind} {a b : Nat} (hg : gd e g = some true) (hx : ev e x = some (.int k (a : Int))) (hy : ev e y = some (.int k (b : Int))) (kt : a < b → WS tab rb ss (put e d (.bool true)) h q) (kf : b ≤ a → WS tab rb ss (put e d (.bool false)) h q) : WS tab rb (.op d g (.bin .lss x y) :: ss) e h q :=
  .lss hg hx hy (fun c => kt (by omega)) (fun c => kf (by omega))
theorem WS.gtrN {x y : Operand} {k : IntKind} {a b : Nat} (hg : gd e g = some true) (hx : ev e x = some (.int k (a : Int))) (hy : ev e y = some (.int k (b : Int))) (kt : b < a → WS tab rb ss (put e d (.bool true)) h q) (kf : a ≤ b → WS tab rb ss (put e d (.bool false)) h q) : WS tab rb (.op d g (.bin .gtr x y) :: ss) e h q :=
  .gtr hg hx hy (fun c => kt (by omega)) (fun c => kf (by omega))
theorem WS.eqlN {x y : Operand} {k : IntKind} {a b : Nat} (hg : gd e g = some true) (hx : ev e x = some (.int k (a : Int))) (hy : ev e y = some (.int k (b : Int))) (kt : a = b → WS tab rb ss (put e d (.bool true)) h q) (kf : a ≠ b → WS tab rb ss (put e d (.bool false)) h q) : WS tab rb (.op d g (.bin .eql x y) :: ss) e h q :=
  .eql hg hx hy (fun c => kt (by omega)) (fun c => kf (by omega))
theorem WS.neqN {x y : Operand} {k : IntKind} {a b : Nat} (hg : gd e g = some true) (hx : ev e x = some (.int k (a : Int))) (hy : ev e y = some (.int k (b : Int))) (kt : a ≠ b → WS tab rb ss (put e d (.bool true)) h q) (kf : a = b → WS tab rb ss (put e d (.bool false)) h q) : WS tab rb (.op d g (.bin .neq x y) :: ss) e h q :=
  .neq hg hx hy (fun c => kt (by omega)) (fun c => kf (by omega))
theorem WC.unroll {keep : List Nat} {b : IC} (e2 : Env) (hn : norm keep e = e2) (k : WC tab b e2 h (thenQ tab (.loop keep b) Q)) : WC tab (.loop keep b) e h Q := by
  obtain ⟨x, e3, h3, r, k⟩ := k
  cases x with
  | norm => obtain ⟨y, e4, h4, r2, k2⟩ := k; exact ⟨_, _, _, .loop hn r r2, k2⟩
  | exit id => exact ⟨_, _, _, .loopE hn r, k⟩
  | ret => exact ⟨_, _, _, .loopR hn r, k⟩
theorem vbt {p : Prop} [Decidable p] (h : p) : packE [.bool true] = .bool (decide p) := by rw [decide_eq_true h]; rfl
theorem vbf {p : Prop} [Decidable p] (h : ¬ p) : packE [.bool false] = .bool (decide p) := by rw [decide_eq_false h]; rfl
theorem wu64 (n : Int) : IntKind.u64.wrap n = n % 18446744073709551616 := by simp [IntKind.wrap, IntKind.bits, IntKind.signed]
theorem cv_u64 {n : Nat} (h : n < 18446744073709551616) : Value.int .u64 (IntKind.u64.wrap (n : Int)) = .int .u64 (n : Int) := by
  congr 1; rw [wu64]; omega
theorem cv_i64 {n : Nat} (h : n < 9223372036854775808) : Value.int .i64 (IntKind.i64.wrap (n : Int)) = .int .i64 (n : Int) := by
  congr 1; rw [IntKind.wrap_i64]; omega
theorem add_i64 {a b : Nat} (h : a + b < 9223372036854775808) : Value.int .i64 (IntKind.i64.wrap ((a : Int) + (b : Int))) = .int .i64 ((a + b : Nat) : Int) := by
  congr 1; rw [IntKind.wrap_i64]; omega
theorem sub_i64 {a b : Nat} (h : b ≤ a ∧ a < 9223372036854775808) : Value.int .i64 (IntKind.i64.wrap ((a : Int) - (b : Int))) = .int .i64 ((a - b : Nat) : Int) := by
  congr 1; rw [IntKind.wrap_i64]; omega
theorem sub_u64 {a b : Nat} (h : b ≤ a ∧ a < 18446744073709551616) : Value.int .u64 (IntKind.u64.wrap ((a : Int) - (b : Int))) = .int .u64 ((a - b : Nat) : Int) := by
  congr 1; rw [wu64]; omega
def At (h : H) (b o : Nat) (cs : List Value) : Prop := ∃ B, h.get b = some B ∧ o + cs.length ≤ B.cells.length ∧ (B.cells.drop o).take cs.length = cs
theorem At.mono {b o : Nat} {cs : List Value} (A : At h b o cs) (hs : ∀ n B, h.get n = some B → h2.get n = some B) : At h2 b o cs := by
  obtain ⟨B, e1, e2, e3⟩ := A; exact ⟨B, hs _ _ e1, e2, e3⟩
theorem At.ld {b o k : Nat} {cs : List Value} {v : Value} (A : At h b o cs) (hc : cs[k]? = some v) : h.ld ⟨b, o + k, none⟩ = some v := by
  obtain ⟨B, e1, e2, e3⟩ := A
  have hk := (List.getElem?_eq_some_iff.1 hc).1
  refine ld_at e1 ?_
  rw [← e3, List.getElem?_take, if_pos hk, List.getElem?_drop] at hc; exact hc
theorem At.ld0 {b o : Nat} {cs : List Value} {v : Value} (A : At h b o cs) (hc : cs[0]? = some v) : h.ld ⟨b, o, none⟩ = some v := A.ld (k := 0) hc
theorem At.lds {b o : Nat} {cs : List Value} (A : At h b o cs) : h.lds ⟨b, o, none⟩ cs.length = some cs := by
  obtain ⟨B, e1, e2, e3⟩ := A; rw [lds_at e1 e2, e3]
theorem op_ldAt {x : Operand} {b o n : Nat} {cs : List Value} (hx : ev e x = some (.pointer (some ⟨b, o, none⟩))) (A : At h b o cs) (hn : cs.length = n) : opE (.ldN n x) e h none = some (.agg cs.toArray, h) := by
  subst hn; exact op_ldN hx A.lds
theorem At.elem {α : Type} {K : Row α} {l : List α} {b o j : Nat} {y : α} (A : At h b o (K.flat l)) (hy : l[j]? = some y) : At h b (o + j * K.n) (K.cells y) := by
  obtain ⟨B, e1, e2, e3⟩ := A
  have hj := (List.getElem?_eq_some_iff.1 hy).1
  have := Nat.mul_le_mul_right K.n (show j + 1 ≤ l.length by omega)
  rw [Nat.add_mul, Nat.one_mul] at this
  rw [K.flat_length] at e2
  refine ⟨B, e1, by rw [K.len]; omega, ?_⟩
  rw [← K.flat_get l j y hy, ← e3, K.flat_length, List.drop_take, List.take_take, List.drop_drop]
  congr 1
  simp; omega
section
variable {α : Type} (K : Row α)
inductive Row.Sl (h : H) : Value → List α → Prop
  | nil : Row.Sl h (.slice none 0 0) []
  | emp (a : Addr) (c : Nat) : Row.Sl h (.slice (some a) 0 c) []
  | row (b o c : Nat) (l : List α) (ha : At h b o (K.flat l)) : Row.Sl h (.slice (some ⟨b, o, none⟩) l.length c) l
variable {K} {V : Value} {l : List α}
theorem Row.Sl.shape (A : K.Sl h V l) : ∃ P c, V = .slice P l.length c := by
  cases A <;> exact ⟨_, _, rfl⟩
theorem op_lenVS {x : Operand} {h0 : H} (A : K.Sl h0 V l) (hx : ev e x = some V) : opE (.lenV x) e h none = some (.int .i64 (l.length : Int), h) := by
  obtain ⟨P, c, rfl⟩ := A.shape
  simp only [opE, hx]
theorem WS.iaVS {x i : Operand} {k : IntKind} {h0 : H} {es : Nat} (A : K.Sl h0 V l) (j : Nat) {y : α} (hy : l[j]? = some y) (hg : gd e g = some true) (hx : ev e x = some V) (hi : ev e i = some (.int k (j : Int))) (hes : es = K.n)
    (w : ∀ b o, At h0 b o (K.cells y) → WS tab rb ss (put e d (.pointer (some ⟨b, o, none⟩))) h q) : WS tab rb (.op d g (.iaV es x i) :: ss) e h q := by
  subst hes
  have hj := (List.getElem?_eq_some_iff.1 hy).1
  cases A with
  | nil => simp at hj
  | emp a c => simp at hj
  | row b o c l ha => exact .op hg (op_iaV2 j hx hi hj) (w _ _ (ha.elem hy))
theorem Row.Sl.own {b c es : Nat} {ro : Bool} (hb : h.get b = some ⟨K.flat l, es, ro⟩) : K.Sl h (.slice (some ⟨b, 0, none⟩) l.length c) l :=
  .row b 0 c l ⟨_, hb, by simp, by simp⟩
variable (K)
inductive Row.Own : Value → List α → Seg → Prop
  | nil : Row.Own (.slice none 0 0) [] []
  | row (p : Nat) (l : List α) (hne : l ≠ []) : Row.Own (.slice (some ⟨p, 0, none⟩) l.length (2 * l.length)) l [(p, ⟨K.flat l, K.n, false⟩)]
structure Row.Src (h : H) (y : Value) (m : List α) : Prop where
  len : srcLen y = some m.length
  cells : srcCells h K.n m.length y = some (K.flat m)
variable {K} {m : List α} {y : Value}
theorem Row.Src.one {b c es : Nat} {ro : Bool} (hb : h.get b = some ⟨K.flat m, es, ro⟩) : K.Src h (.slice (some ⟨b, 0, none⟩) m.length c) m := by
  refine ⟨rfl, ?_⟩
  simp only [srcCells]
  rw [lds_at hb (by rw [K.flat_length]; simp), List.drop_zero, List.take_of_length_le (by rw [K.flat_length]; exact Nat.le_refl _)]
theorem Mem.own0 (M : Mem base h (S :: L) R) : ∀ p ∈ S, h.get p.1 = some p.2 := fun p hp => (M.own p (by simp only [List.flatten_cons, List.mem_append]; exact .inl hp)).1
theorem Mem.owni (M : Mem base h L R) (i : Nat) (hi : L[i]? = some S) : ∀ p ∈ S, h.get p.1 = some p.2 := fun p hp => (M.own p (mem_flatten hi hp)).1
theorem WS.app {S : Seg} {x z : Operand} {bytes es : Nat} (O : K.Own V l S) (M : Mem base h (S :: L) R) (A : K.Src h y m) (hes : es = K.n) (hb : (l.length + m.length) * bytes ≤ 140737488355328) (hn : l.length + m.length ≤ 1099511627776) (hg : gd e g = some true) (hx : ev e x = some V) (hy : ev e z = some y)
    (k : ∀ V' S' h1, K.Own V' (l ++ m) S' → Mem base h1 (S' :: L) R → WS tab rb ss (put e d V') h1 q) : WS tab rb (.op d g (.app es bytes x z) :: ss) e h q := by
  subst hes
  obtain ⟨a1, a2⟩ := A
  have hall := plain1_one (K.flat_plain m)
  cases O with
  | nil =>
    by_cases c : m = []
    · subst c
      refine .op hg (op_app hx hy (r := (.slice none 0 0, h)) ?_) (k _ [] _ .nil M)
      simp only [appE, a1, a2]; rfl
    · have hm : m.length ≠ 0 := fun e => c (List.eq_nil_of_length_eq_zero e)
      refine .op hg (op_app hx hy (r := (.slice (some ⟨h.next, 0, none⟩) m.length (2 * m.length), h.alloc ⟨K.flat m, K.n, false⟩)) ?_) (k _ _ _ (by rw [List.nil_append]; exact .row h.next m c) (Mem.perm (M.alloc _) (by simp)))
      simp only [appE, a1, a2]
      simp only [List.length_nil, Nat.zero_add] at hb hn
      rw [if_neg hm, if_pos ⟨hb, hn, hall⟩]; rfl
  | row p l hne =>
    have hg2 : h.get p = some ⟨K.flat l, K.n, false⟩ := M.own0 _ (List.mem_singleton.2 rfl)
    by_cases c : m = []
    · subst c
      refine .op hg (op_app hx hy (r := (.slice (some ⟨p, 0, none⟩) l.length (2 * l.length), h)) ?_) (k _ _ _ (by rw [List.append_nil]; exact .row p l hne) M)
      simp only [List.length_nil] at a1 a2
      simp only [appE, a1, a2, Nat.add_zero]
      rw [if_pos (by omega)]; rfl
    · have hm : m.length ≠ 0 := fun e => c (List.eq_nil_of_length_eq_zero e)
      have M2 := (Mem.free (S1 := []) (S2 := []) M).alloc ⟨K.flat (l ++ m), K.n, false⟩
      refine .op hg (op_app hx hy (r := (.slice (some ⟨h.next, 0, none⟩) (l.length + m.length) (2 * (l.length + m.length)), (h.set p none).alloc ⟨K.flat (l ++ m), K.n, false⟩)) ?_) (k _ [(h.next, ⟨K.flat (l ++ m), K.n, false⟩)] _ ?_ (Mem.perm M2 (by simp [H.next_set])))
      · simp only [appE, a1, a2]
        rw [if_neg (by omega), if_pos ⟨hb, hn, hall⟩, lds_at hg2 (by rw [K.flat_length]; simp)]
        simp only
        rw [if_neg (by omega)]
        simp only [hg2]
        rw [if_pos ⟨trivial, trivial, trivial⟩, List.drop_zero, List.take_of_length_le (by rw [K.flat_length]; exact Nat.le_refl _), K.flat_append]
      · have := Row.Own.row (K := K) h.next (l ++ m) (by simp [hne])
        rw [List.length_append] at this; exact this
theorem Row.Own.shape {S : Seg} (O : K.Own V l S) : ∃ P, V = .slice P l.length (2 * l.length) := by cases O <;> exact ⟨_, rfl⟩
end
def KU8 : Row UInt8 := ⟨fun x => [.int .u8 ((x.toNat : Nat) : Int)], 1, fun _ => rfl, by decide, fun _ => rfl⟩
theorem u64_ofNat {n : Nat} (h : n < 18446744073709551616) : Value.int .u64 (n : Int) = .int .u64 ((UInt64.ofNat n).toNat : Int) := by
  rw [UInt64.toNat_ofNat']; congr 2; omega
theorem add1_u64 {x : UInt64} : Value.int .u64 (IntKind.u64.wrap ((x.toNat : Int) + 1)) = .int .u64 (((x + 1).toNat : Nat) : Int) := by
  congr 1
section
variable {α : Type} {K : Row α}
theorem Row.flat_set : ∀ {l : List α} {j k : Nat} {y y' : α} {v : Value}, l[j]? = some y → k < K.n → (K.cells y).set k v = K.cells y' → splice (K.flat l) (j * K.n + k) [v] = K.flat (l.set j y') := by
  intro l
  induction l with
  | nil => intro j k y y' v hj; simp at hj
  | cons x l ih =>
    intro j k y y' v hj hk hs
    cases j with
    | zero =>
      simp at hj; subst hj
      rw [List.set_cons_zero, K.flat_cons, K.flat_cons, ← hs, Nat.zero_mul, Nat.zero_add]
      have hl := K.len x
      unfold splice
      rw [List.take_append_of_le_length (by omega), List.length_singleton, List.drop_append_of_le_length (by omega), ← List.append_assoc]
      rw [List.set_eq_take_append_cons_drop, if_pos (by omega)]; simp
    | succ j =>
      simp at hj
      have h2 := ih hj hk hs
      rw [List.set_cons_succ, K.flat_cons, K.flat_cons, ← h2]
      have hl := K.len x
      have e : (j + 1) * K.n + k = (K.cells x).length + (j * K.n + k) := by rw [hl, Nat.add_mul, Nat.one_mul]; omega
      unfold splice
      rw [e, List.take_append, List.length_singleton, List.drop_append, List.take_of_length_le (by omega), List.drop_of_length_le (by omega), List.nil_append, List.append_assoc, List.append_assoc, List.append_assoc]
      rw [show (K.cells x).length + (j * K.n + k) - (K.cells x).length = j * K.n + k by omega, show (K.cells x).length + (j * K.n + k) + 1 - (K.cells x).length = j * K.n + k + 1 by omega]
theorem WS.stE {p j k es : Nat} {l : List α} {y y' : α} {v : Value} {x z : Operand} (M : Mem base h ([(p, ⟨K.flat l, es, false⟩)] :: L) R) (hy : l[j]? = some y) (hk : k < K.n) (hs : (K.cells y).set k v = K.cells y') (hg : gd e g = some true) (hx : ev e x = some (.pointer (some ⟨p, 0 + j * K.n + k, none⟩))) (hz : ev e z = some v) (hv : v.cells.toList = [v]) (ho : v.oneCell' = true)
    (w : ∀ h1, Mem base h1 ([(p, ⟨K.flat (l.set j y'), es, false⟩)] :: L) R → WS tab rb ss (put e d undef) h1 q) : WS tab rb (.op d g (.st 1 x z) :: ss) e h q := by
  have hj := (List.getElem?_eq_some_iff.1 hy).1
  have hle : 0 + j * K.n + k + [v].length ≤ (K.flat l).length := by
    rw [K.flat_length]
    have := Nat.mul_le_mul_right K.n (show j + 1 ≤ l.length by omega)
    rw [Nat.add_mul, Nat.one_mul] at this
    simp; omega
  refine WS.st1 M [v] (K.flat (l.set j y')) hg hx hz hv rfl (by decide) hle (by simp [ho]) ?_ w
  rw [Nat.zero_add]; exact Row.flat_set hy hk hs
end
end Go.Proofs.Ytomaijljeacpjaa.Am
namespace Go.Proofs.Ytomaijljeacpjaa.Wt
open Go Go.Proofs.Ytomaijljeacpjaa.Am Go.Proofs.Ytomaijljeacpjaa.IrAll
set_option linter.unusedVariables false
set_option linter.unusedSimpArgs false
def hi (n : Nat) : List UInt8 := if h : n = 0 then [] else hi (n / 128) ++ [UInt8.ofNat (128 + n % 128)]
termination_by n
decreasing_by omega
def vb (n : Nat) : List UInt8 := hi (n / 128) ++ [UInt8.ofNat (n % 128)]
theorem hi_zero : hi 0 = [] := by unfold hi; simp
theorem hi_pos {n : Nat} (h : n ≠ 0) : hi n = hi (n / 128) ++ [UInt8.ofNat (128 + n % 128)] := by
  conv => lhs; unfold hi
  rw [dif_neg h]
theorem hi_nil {n : Nat} (h : hi n = []) : n = 0 := by
  by_cases c : n = 0
  · exact c
  · rw [hi_pos c] at h; simp at h
theorem hi_step {n r : Nat} (hr : r < 128) (h : n ≠ 0 ∨ r ≠ 0) : hi (n * 128 + r) = hi n ++ [UInt8.ofNat (128 + r)] := by
  rw [hi_pos (by omega), show (n * 128 + r) / 128 = n by omega, show (n * 128 + r) % 128 = r by omega]
theorem hi_length {k : Nat} : ∀ {n : Nat}, n < 128 ^ k → (hi n).length ≤ k := by
  induction k with
  | zero => intro n h; have : n = 0 := by simpa using h
            subst this; rw [hi_zero]; simp
  | succ k ih =>
    intro n h
    by_cases c : n = 0
    · subst c; rw [hi_zero]; simp
    · rw [hi_pos c, List.length_append]
      have : n / 128 < 128 ^ k := by rw [Nat.pow_succ] at h; omega
      have := ih this
      simp; omega
theorem vb_ne (n : Nat) : vb n ≠ [] := by simp [vb]
theorem vb_step {n r : Nat} (hr : r < 128) : vb (n * 128 + r) = hi n ++ [UInt8.ofNat r] := by
  unfold vb; rw [show (n * 128 + r) / 128 = n by omega, show (n * 128 + r) % 128 = r by omega]
theorem vb_len {n : Nat} (h : n < 18446744073709551616) : (vb n).length ≤ 10 := by
  have : (hi (n / 128)).length ≤ 9 := hi_length (by omega)
  simp [vb]; omega
def rv : List UInt8 → Nat → Nat → Option (Nat × Nat)
  | [], _, _ => none
  | c :: s, n, k => if (k = 0 ∧ c.toNat = 128) ∨ 144115188075855872 ≤ n then none else if c.toNat < 128 then some (n * 128 + c.toNat, k + 1) else rv s (n * 128 + (c.toNat - 128)) (k + 1)
def getV (s : List UInt8) : Option (Nat × Nat) := rv s 0 0
def rvN (s : List UInt8) : Nat := match getV s with | some p => p.1 | none => 0
def rvK (s : List UInt8) : Nat := match getV s with | some p => p.2 | none => 0
def rvOK (s : List UInt8) : Bool := (getV s).isSome
theorem ofNat_toNat (c : UInt8) : UInt8.ofNat c.toNat = c := by simp
theorem toNat_ofNat {n : Nat} (h : n < 256) : (UInt8.ofNat n).toNat = n := by
  simp [UInt8.toNat_ofNat']; omega
theorem rv_sound : ∀ (s : List UInt8) (n k m j : Nat) (p : List UInt8), rv s n k = some (m, j) → hi n = p → p.length = k → ∃ t r, s = t ++ r ∧ p ++ t = vb m ∧ j = (p ++ t).length ∧ m < 18446744073709551616 := by
  intro s
  induction s with
  | nil => intro n k m j p h; cases h
  | cons c s ih =>
    intro n k m j p h hp hk
    simp only [rv] at h
    split at h
    · cases h
    · rename_i hc
      have hc2 := c.toNat_lt
      split at h
      · rename_i hl; cases h
        refine ⟨[c], s, rfl, ?_, by simp [hk], by omega⟩
        rw [vb_step hl, ofNat_toNat, hp]
      · rename_i hl
        have hn : n ≠ 0 ∨ c.toNat - 128 ≠ 0 := by
          by_cases c0 : n = 0
          · right; intro c1
            have : p = [] := by rw [← hp, c0, hi_zero]
            exact hc (.inl ⟨by rw [← hk, this]; rfl, by omega⟩)
          · exact .inl c0
        have h2 := hi_step (n := n) (r := c.toNat - 128) (by omega) hn
        rw [show 128 + (c.toNat - 128) = c.toNat by omega, ofNat_toNat, hp] at h2
        obtain ⟨t, r, e1, e2, e3, e4⟩ := ih _ _ _ _ _ h h2 (by simp [hk])
        exact ⟨c :: t, r, by rw [e1]; rfl, by rw [← e2]; simp, by rw [e3]; simp, e4⟩
theorem rv_hi : ∀ (m : Nat) (r : List UInt8), m < 144115188075855872 → rv (hi m ++ r) 0 0 = rv r m (hi m).length := by
  intro m
  induction m using Nat.strongRecOn with
  | _ m ih =>
    intro r hm
    by_cases c : m = 0
    · subst c; rw [hi_zero]; rfl
    · have hx : (UInt8.ofNat (128 + m % 128)).toNat = 128 + m % 128 := toNat_ofNat (by omega)
      rw [hi_pos c, List.append_assoc, ih (m / 128) (by omega) _ (by omega), List.singleton_append]
      simp only [rv]
      rw [if_neg, if_neg (by rw [hx]; omega), hx]
      · rw [show m / 128 * 128 + (128 + m % 128 - 128) = m by omega]; simp
      · rintro (⟨h1, h2⟩ | h2)
        · have : m / 128 = 0 := hi_nil (List.eq_nil_of_length_eq_zero h1)
          rw [hx] at h2; omega
        · omega
theorem getV_vb {n : Nat} (h : n < 18446744073709551616) (r : List UInt8) : getV (vb n ++ r) = some (n, (vb n).length) := by
  unfold getV vb
  have hx : (UInt8.ofNat (n % 128)).toNat = n % 128 := toNat_ofNat (by omega)
  rw [List.append_assoc, rv_hi _ _ (by omega), List.singleton_append]
  simp only [rv]
  rw [if_neg, if_pos (by rw [hx]; omega), hx]
  · rw [show n / 128 * 128 + n % 128 = n by omega]; simp
  · rintro (⟨h1, h2⟩ | h2)
    · rw [hx] at h2; omega
    · omega
theorem getV_some {s : List UInt8} {n k : Nat} (h : getV s = some (n, k)) : s = vb n ++ s.drop k ∧ k = (vb n).length ∧ n < 18446744073709551616 := by
  obtain ⟨t, r, e1, e2, e3, e4⟩ := rv_sound s 0 0 n k [] h hi_zero rfl
  simp only [List.nil_append] at e2 e3
  subst e1
  refine ⟨?_, by rw [e3, e2], e4⟩
  rw [e3, ← e2, List.drop_left]
theorem getV_le {s : List UInt8} {n k : Nat} (h : getV s = some (n, k)) : 1 ≤ k ∧ k ≤ s.length ∧ k ≤ 10 := by
  obtain ⟨e1, e2, e3⟩ := getV_some h
  have h1 : 0 < (vb n).length := List.length_pos_iff.2 (vb_ne n)
  have h2 := congrArg List.length e1
  have h3 := vb_len e3
  simp only [List.length_append] at h2; omega
theorem rvK_le (s : List UInt8) : rvK s ≤ s.length ∧ rvK s ≤ 10 := by
  unfold rvK; split
  · rename_i p hp; exact ⟨(getV_le hp).2.1, (getV_le hp).2.2⟩
  · simp
theorem rvN_lt (s : List UInt8) : rvN s < 18446744073709551616 := by
  unfold rvN; split
  · rename_i p hp; exact (getV_some hp).2.2
  · omega
theorem rv_eq_some {s : List UInt8} {n k : Nat} (h : getV s = some (n, k)) : rvN s = n ∧ rvK s = k ∧ rvOK s = true := by simp [rvN, rvK, rvOK, h]
theorem rv_eq_none {s : List UInt8} (h : getV s = none) : rvN s = 0 ∧ rvK s = 0 ∧ rvOK s = false := by simp [rvN, rvK, rvOK, h]
theorem getV_eq (s : List UInt8) : getV s = if rvOK s then some (rvN s, rvK s) else none := by
  unfold rvN rvK rvOK; cases getV s <;> simp
def sb (t : List UInt8) : List UInt8 := vb t.length ++ t
def getS (s : List UInt8) : Option (List UInt8 × Nat) := match getV s with
  | some (n, k) => if n ≤ s.length - k then some ((s.drop k).take n, k + n) else none
  | none => none
def rsT (s : List UInt8) : List UInt8 := match getS s with | some p => p.1 | none => []
def rsK (s : List UInt8) : Nat := match getS s with | some p => p.2 | none => 0
def rsOK (s : List UInt8) : Bool := (getS s).isSome
theorem getS_sb {t : List UInt8} (h : t.length < 18446744073709551616) (r : List UInt8) : getS (sb t ++ r) = some (t, (sb t).length) := by
  unfold getS sb
  rw [List.append_assoc, getV_vb h]
  simp
theorem getS_some {s t : List UInt8} {k : Nat} (h : getS s = some (t, k)) : s = sb t ++ s.drop k ∧ k = (sb t).length ∧ t.length < 18446744073709551616 := by
  unfold getS at h
  split at h
  · rename_i n j hv
    obtain ⟨e1, e2, e3⟩ := getV_some hv
    have hl := congrArg List.length e1
    simp only [List.length_append, List.length_drop] at hl
    split at h
    · rename_i hn; cases h
      have hlen : ((s.drop j).take n).length = n := by simp; omega
      refine ⟨?_, by unfold sb; rw [List.length_append, hlen, ← e2], by rw [hlen]; exact e3⟩
      unfold sb; rw [hlen, List.append_assoc]
      conv => lhs; rw [e1]
      congr 1
      conv => lhs; rw [← List.take_append_drop n (s.drop j)]
      rw [List.drop_drop]
    · cases h
  · cases h
theorem getS_le {s t : List UInt8} {k : Nat} (h : getS s = some (t, k)) : 1 ≤ k ∧ k ≤ s.length ∧ t.length ≤ k := by
  obtain ⟨e1, e2, e3⟩ := getS_some h
  have h1 : 0 < (vb t.length).length := List.length_pos_iff.2 (vb_ne _)
  have h2 := congrArg List.length e1
  simp only [sb, List.length_append] at h2 e2; omega
theorem rsK_le (s : List UInt8) : rsK s ≤ s.length := by
  unfold rsK; split
  · rename_i p hp; exact (getS_le hp).2.1
  · simp
theorem rsT_le (s : List UInt8) : (rsT s).length ≤ s.length := by
  unfold rsT; split
  · rename_i p hp; have := getS_le hp; omega
  · simp
theorem rs_eq_some {s t : List UInt8} {k : Nat} (h : getS s = some (t, k)) : rsT s = t ∧ rsK s = k ∧ rsOK s = true := by simp [rsT, rsK, rsOK, h]
theorem rs_eq_none {s : List UInt8} (h : getS s = none) : rsT s = [] ∧ rsK s = 0 ∧ rsOK s = false := by simp [rsT, rsK, rsOK, h]
theorem getS_eq (s : List UInt8) : getS s = if rsOK s then some (rsT s, rsK s) else none := by
  unfold rsT rsK rsOK; cases getS s <;> simp
theorem bv8 (a : Nat) (h : a < 256) (b : Nat) (hb : b < 256) : IntKind.u8.wrap ((BitVec.ofInt IntKind.u8.bits (a : Int) &&& BitVec.ofInt IntKind.u8.bits (b : Int)).toNat : Nat) = ((a &&& b : Nat) : Int) := by
  have h1 : a &&& b ≤ a := Nat.and_le_left
  have e1 : ((a : Int) % ((2 ^ 8 : Nat) : Int)).toNat = a := by omega
  have e2 : ((b : Int) % ((2 ^ 8 : Nat) : Int)).toNat = b := by omega
  have key : (BitVec.ofInt 8 (a : Int) &&& BitVec.ofInt 8 (b : Int)).toNat = a &&& b := by simp only [BitVec.toNat_and, BitVec.toNat_ofInt]; rw [e1, e2]
  show IntKind.u8.wrap ((BitVec.ofInt 8 (a : Int) &&& BitVec.ofInt 8 (b : Int)).toNat : Int) = _
  rw [key, IntKind.wrap_u8]; omega
theorem and127 (a : Nat) : a &&& 127 = a % 128 := Nat.and_two_pow_sub_one_eq_mod a 7
theorem low_u8 (c : UInt8) : Value.int .u8 (IntKind.u8.wrap ((BitVec.ofInt IntKind.u8.bits (c.toNat : Int) &&& BitVec.ofInt IntKind.u8.bits 127).toNat : Nat)) = .int .u8 ((c.toNat % 128 : Nat) : Int) := by
  have := bv8 c.toNat c.toNat_lt 127 (by omega)
  rw [and127] at this; rw [← this]; rfl
theorem more_all : ∀ a : Fin 256, a.val &&& 128 = if a.val < 128 then 0 else 128 := by decide +kernel
theorem more_u8 (c : UInt8) : Value.int .u8 (IntKind.u8.wrap ((BitVec.ofInt IntKind.u8.bits (c.toNat : Int) &&& BitVec.ofInt IntKind.u8.bits 128).toNat : Nat)) = .int .u8 ((if c.toNat < 128 then 0 else 128 : Nat) : Int) := by
  have h := bv8 c.toNat c.toNat_lt 128 (by omega)
  have h2 := more_all ⟨c.toNat, c.toNat_lt⟩
  simp only at h2
  rw [h2] at h; rw [← h]; rfl
theorem bvo64 (a b : Nat) (h : a < 18446744073709551616) (hb : b < 18446744073709551616) : IntKind.u64.wrap ((BitVec.ofInt IntKind.u64.bits (a : Int) ||| BitVec.ofInt IntKind.u64.bits (b : Int)).toNat : Nat) = ((a ||| b : Nat) : Int) := by
  have h1 : a ||| b < 2 ^ 64 := Nat.or_lt_two_pow (by omega) (by omega)
  have e1 : ((a : Int) % ((2 ^ 64 : Nat) : Int)).toNat = a := by omega
  have e2 : ((b : Int) % ((2 ^ 64 : Nat) : Int)).toNat = b := by omega
  have key : (BitVec.ofInt 64 (a : Int) ||| BitVec.ofInt 64 (b : Int)).toNat = a ||| b := by simp only [BitVec.toNat_or, BitVec.toNat_ofInt]; rw [e1, e2]
  show IntKind.u64.wrap ((BitVec.ofInt 64 (a : Int) ||| BitVec.ofInt 64 (b : Int)).toNat : Int) = _
  rw [key, wu64]; omega
theorem or_add (n r : Nat) (hr : r < 128) : n * 128 ||| r = n * 128 + r := by
  have := Nat.two_pow_add_eq_or_of_lt (i := 7) (b := r) (by omega) n
  rw [Nat.mul_comm n 128]; exact this.symm
theorem shl7 {n : Nat} (h : n < 144115188075855872) : Value.int .u64 (IntKind.u64.wrap ((n : Int) * 2 ^ (min (Int.toNat 7) IntKind.u64.bits))) = .int .u64 ((n * 128 : Nat) : Int) := by
  congr 1
  have : (2 : Int) ^ (min (Int.toNat 7) IntKind.u64.bits) = 128 := by decide
  rw [this, wu64]; omega
theorem or7 {n r : Nat} (h : n * 128 < 18446744073709551616) (hr : r < 128) : Value.int .u64 (IntKind.u64.wrap ((BitVec.ofInt IntKind.u64.bits ((n * 128 : Nat) : Int) ||| BitVec.ofInt IntKind.u64.bits (r : Int)).toNat : Nat)) = .int .u64 ((n * 128 + r : Nat) : Int) := by
  congr 1; rw [bvo64 _ _ h (by omega), or_add _ _ hr]
theorem fdiv_nat (n k : Nat) : Int.fdiv (n : Int) (k : Int) = ((n / k : Nat) : Int) := by
  rw [Int.fdiv_eq_ediv_of_nonneg _ (by omega)]; rfl
theorem shr57 (n : Nat) : Value.int .u64 (Int.fdiv (n : Int) (2 ^ (min (Int.toNat 57) IntKind.u64.bits))) = .int .u64 ((n / 144115188075855872 : Nat) : Int) := by
  congr 1
  have : (2 : Int) ^ (min (Int.toNat 57) IntKind.u64.bits) = ((144115188075855872 : Nat) : Int) := by decide
  rw [this, fdiv_nat]
theorem drop_cons {l : List UInt8} {k : Nat} {c : UInt8} (hc : l[k]? = some c) : l.drop k = c :: l.drop (k + 1) := by
  obtain ⟨h1, h2⟩ := List.getElem?_eq_some_iff.1 hc
  rw [List.drop_eq_getElem_cons h1, h2]
def rvV (l : List UInt8) : Value := .tuple #[.int .u64 (rvN l : Int), .int .i64 (rvK l : Int), .bool (rvOK l)]
theorem rvV_some {l : List UInt8} {n k : Nat} (h : getV l = some (n, k)) : rvV l = .tuple #[.int .u64 (n : Int), .int .i64 (k : Int), .bool true] := by
  obtain ⟨e1, e2, e3⟩ := rv_eq_some h; simp only [rvV, e1, e2, e3]
theorem rvV_none {l : List UInt8} (h : getV l = none) : rvV l = .tuple #[.int .u64 0, .int .i64 0, .bool false] := by
  obtain ⟨e1, e2, e3⟩ := rv_eq_none h; simp only [rvV, e1, e2, e3]; rfl
theorem rv_ten {s : List UInt8} {n k : Nat} (hk : 10 ≤ k) (hn : (hi n).length = k) : rv s n k = none := by
  have : 144115188075855872 ≤ n := by
    rcases Nat.lt_or_ge n 144115188075855872 with h | h
    · have := hi_length (k := 9) (n := n) (by omega); omega
    · exact h
  cases s with
  | nil => rfl
  | cons c s => simp only [rv]; rw [if_pos (.inr this)]
theorem len_step {n k c : Nat} (hc : 128 ≤ c) (hc2 : c < 256) (i3 : (hi n).length = k) (hp : ¬(k = 0 ∧ c = 128)) : (hi (n * 128 + c % 128)).length = k + 1 := by
  rw [hi_step (by omega), List.length_append, i3]; rfl
  by_cases q : n = 0
  · subst q; rw [hi_zero] at i3; simp at i3; right; omega
  · exact .inl q
theorem more_zero {c : Nat} (h : (if c < 128 then 0 else 128 : Nat) = 0) : c < 128 := by
  by_cases q : c < 128
  · exact q
  · rw [if_neg q] at h; simp at h
theorem more_ne {c : Nat} (h : (if c < 128 then 0 else 128 : Nat) ≠ 0) : 128 ≤ c := by
  by_cases q : c < 128
  · rw [if_pos q] at h; simp at h
  · omega
theorem num_ReadV_ran {h : H} (W : Mem h h [] []) {l : List UInt8} (hl : l.length < 9223372036854775808) : Cll tab0 35 [.string (bs l)] h (fun v h2 => v = rvV l ∧ Mem h h2 [] []) := by
  refine Cll.code rfl rfl ?_
  refine WC.env [(0, _)] rfl ?_
  refine WC.seq ?_
  refine WC.run ?_
  refine WS.op rfl rfl (WS.op rfl rfl (WS.op rfl rfl (WS.nil [(0, _), (2, _), (3, _)] rfl ?_)))
  refine WC.seq ?_
  refine WC.block ?_
  obtain ⟨L1, eL3, M2⟩ := Mem.name W.bare
  refine WC.loop (σ := Nat × Nat) (fun ((n, k)) => [(0, (.string (bs l))), (2, (.int .u64 ((n : Nat) : Int))), (3, (.int .i64 ((k : Nat) : Int)))]) (fun ((n, k)) hh => Mem h hh (L1) [] ∧ getV l = rv (l.drop k) n k ∧ k ≤ l.length ∧ (hi n).length = k ∧ n < 18446744073709551616) (fun ((n, k)) => l.length - k) (0, 0) rfl ⟨M2, ?_⟩ ?_
  · exact ⟨rfl, by omega, by rw [hi_zero]; rfl, by omega⟩
  ·rintro ⟨n, k⟩ h4 ⟨M5, ⟨i1, i2, i3, i4⟩⟩
   subst eL3
   refine WC.env [(0, _), (2, _), (3, _)] rfl ?_
   refine WC.seq ?_
   refine WC.seq ?_
   refine WC.run ?_
   refine WS.op rfl rfl (WS.op rfl rfl (WS.op rfl (op_lenS (l := l) rfl) ?_))
   refine WS.lssN (a := k) (b := (l).length) rfl rfl rfl (fun e9 => ?_) (fun e9 => ?_)
   ·
    refine WS.op rfl rfl (WS.op rfl rfl ?_)
    refine WS.lssN (a := k) (b := 10) rfl rfl rfl (fun e12 => ?_) (fun e12 => ?_)
    ·
     refine WS.op rfl rfl (WS.nil [(0, _), (2, _), (3, _), (13, _)] rfl ?_)
     refine WC.condT rfl ?_
     refine WC.skip ?_
     refine WC.block ?_
     refine WC.seq ?_
     refine WC.run ?_
     refine WS.op rfl rfl (WS.op rfl rfl ?_)
     obtain ⟨c, hc⟩ : ∃ c, l[k]? = some c := ⟨_, List.getElem?_eq_getElem (show k < l.length by omega)⟩
     have hcl := c.toNat_lt
     rw [drop_cons hc] at i1
     simp only [rv] at i1
     refine WS.op rfl (op_ixS k rfl rfl hc) (WS.op rfl rfl (WS.nil [(0, _), (2, _), (3, _), (5, _)] rfl ?_))
     refine WC.seq ?_
     refine WC.seq ?_
     obtain ⟨L6, eL8, M7⟩ := Mem.name M5.bare
     refine WC.joinB (base := h) (fun b => [(0, (.string (bs l))), (2, (.int .u64 ((n : Nat) : Int))), (3, (.int .i64 ((k : Nat) : Int))), (5, (.int .u8 (((c).toNat : Nat) : Int))), (27, .bool b)]) L6 (getV l = none) (¬(k = 0 ∧ c.toNat = 128) ∧ n < 144115188075855872) ?_ ?_ ?_
     ·subst eL8
      refine WS.op rfl rfl ?_
      refine WS.eqlN (a := k) (b := 0) rfl rfl rfl (fun e18 => ?_) (fun e18 => ?_)
      ·
       refine WS.op rfl rfl (WS.op rfl rfl ?_)
       refine WS.eqlN (a := (c).toNat) (b := 128) rfl rfl rfl (fun e21 => ?_) (fun e21 => ?_)
       ·
        refine WS.op rfl rfl (WS.op rfl rfl (WS.off rfl (WS.off rfl (WS.off rfl (WS.op rfl rfl ?_)))))
        refine WS.nil' ⟨true, rfl, (M7.bare.take 0), fun _ => ?_, fun hh => ?_⟩
        · rw [i1, if_pos (by omega)]
        · cases hh
       ·
        refine WS.op rfl rfl (WS.op rfl rfl (WS.op rfl rfl (WS.opV (.int .u64 ((n / 144115188075855872 : Nat) : Int)) rfl rfl (shr57 n) ?_)))
        refine WS.gtrN (a := (n / 144115188075855872)) (b := 0) rfl rfl rfl (fun e26 => ?_) (fun e26 => ?_)
        ·
         refine WS.op rfl rfl ?_
         refine WS.nil' ⟨true, rfl, (M7.bare.take 0), fun _ => ?_, fun hh => ?_⟩
         · rw [i1, if_pos (by omega)]
         · cases hh
        ·
         refine WS.op rfl rfl ?_
         refine WS.nil' ⟨false, rfl, (M7.bare.take 0), fun hh => ?_, fun _ => ?_⟩
         · cases hh
         · omega
      ·
       refine WS.op rfl rfl (WS.off rfl (WS.off rfl (WS.op rfl rfl (WS.op rfl rfl (WS.op rfl rfl (WS.opV (.int .u64 ((n / 144115188075855872 : Nat) : Int)) rfl rfl (shr57 n) ?_))))))
       refine WS.gtrN (a := (n / 144115188075855872)) (b := 0) rfl rfl rfl (fun e26 => ?_) (fun e26 => ?_)
       ·
        refine WS.op rfl rfl ?_
        refine WS.nil' ⟨true, rfl, (M7.bare.take 0), fun _ => ?_, fun hh => ?_⟩
        · rw [i1, if_pos (by omega)]
        · cases hh
       ·
        refine WS.op rfl rfl ?_
        refine WS.nil' ⟨false, rfl, (M7.bare.take 0), fun hh => ?_, fun _ => ?_⟩
        · cases hh
        · omega
     ·intro h9 M10 hp27
      subst eL8
      refine WC.condT rfl ?_
      refine WC.exit ?_
      refine WC.seq ?_
      refine WC.run ?_
      refine WS.op rfl rfl (WS.op rfl rfl (WS.op rfl rfl (WS.nil [(2, _), (3, _), (4, _)] rfl ?_)))
      refine WC.ret ?_
      refine ⟨[_, _, _], (res_tmp rfl (res_tmp rfl (res_tmp rfl res_nil))), ?_⟩
      exact ⟨by rw [rvV_none hp27]; rfl, M10.bare.take 0⟩
     ·intro h11 M12 hp27
      subst eL8
      refine WC.condF rfl ?_
      refine WC.skip ?_
      refine WC.seq ?_
      refine WC.run ?_
      refine WS.op rfl rfl (WS.opV (.int .u64 ((n * 128 : Nat) : Int)) rfl rfl (shl7 (by omega)) (WS.op rfl rfl (WS.opV (.int .u8 ((c.toNat % 128 : Nat) : Int)) rfl rfl (low_u8 c) (WS.opV (.int .u64 (((c.toNat % 128) : Nat) : Int)) rfl rfl (cv_u64 (n := (c.toNat % 128)) (by omega)) (WS.opV (.int .u64 ((n * 128 + c.toNat % 128 : Nat) : Int)) rfl rfl (or7 (by omega) (by omega)) (WS.op rfl rfl (WS.nil [(0, _), (2, _), (3, _), (5, _)] rfl ?_)))))))
      refine WC.seq ?_
      refine WC.run ?_
      refine WS.op rfl rfl (WS.opV (.int .i64 (((k + 1) : Nat) : Int)) rfl rfl (add_i64 (a := k) (b := 1) (by omega)) (WS.op rfl rfl (WS.nil [(0, _), (2, _), (3, _), (5, _)] rfl ?_)))
      refine WC.seq ?_
      refine WC.run ?_
      refine WS.op rfl rfl (WS.opV (.int .u8 ((if c.toNat < 128 then 0 else 128 : Nat) : Int)) rfl rfl (more_u8 c) ?_)
      refine WS.eqlN (a := (if c.toNat < 128 then 0 else 128)) (b := 0) rfl rfl rfl (fun e38 => ?_) (fun e38 => ?_)
      ·
       refine WS.nil [(0, _), (2, _), (3, _), (38, _)] rfl ?_
       refine WC.condT rfl ?_
       refine WC.seq ?_
       refine WC.run ?_
       refine WS.op rfl rfl (WS.op rfl rfl (WS.op rfl rfl (WS.op rfl rfl (WS.op rfl rfl (WS.nil [(2, _), (3, _), (4, _)] rfl ?_)))))
       refine WC.ret ?_
       refine ⟨[_, _, _], (res_tmp rfl (res_tmp rfl (res_tmp rfl res_nil))), ?_⟩
       have hm := more_zero e38
       exact ⟨by rw [rvV_some (n := n * 128 + c.toNat % 128) (k := k + 1) (by rw [i1, if_neg (by omega), if_pos hm, Nat.mod_eq_of_lt hm])]; rfl, M12.bare.take 0⟩
      ·
       refine WS.nil [(0, _), (2, _), (3, _), (38, _)] rfl ?_
       refine WC.condF rfl ?_
       refine WC.skip ?_
       refine ⟨(n * 128 + c.toNat % 128, k + 1), rfl, ⟨(M12.bare.take 0), ?_⟩, ?_⟩
       · have hm := more_ne e38; exact ⟨by rw [i1, if_neg (by omega), if_neg (by omega), show c.toNat % 128 = c.toNat - 128 by omega], by omega, len_step hm hcl i3 hp27.1, by omega⟩
       · simp only []; omega
    ·
     refine WS.op rfl rfl (WS.nil [(0, _), (2, _), (3, _), (13, _)] rfl ?_)
     refine WC.condF rfl ?_
     refine WC.exit ?_
     refine WC.seq ?_
     refine WC.run ?_
     refine WS.op rfl rfl (WS.op rfl rfl (WS.op rfl rfl (WS.nil [(2, _), (3, _), (4, _)] rfl ?_)))
     refine WC.ret ?_
     refine ⟨[_, _, _], (res_tmp rfl (res_tmp rfl (res_tmp rfl res_nil))), ?_⟩
     exact ⟨by rw [rvV_none (i1.trans (rv_ten (by omega) i3))]; rfl, M5.bare.take 0⟩
   ·
    refine WS.op rfl rfl (WS.off rfl (WS.off rfl (WS.op rfl rfl (WS.nil [(0, _), (2, _), (3, _), (13, _)] rfl ?_))))
    refine WC.condF rfl ?_
    refine WC.exit ?_
    refine WC.seq ?_
    refine WC.run ?_
    refine WS.op rfl rfl (WS.op rfl rfl (WS.op rfl rfl (WS.nil [(2, _), (3, _), (4, _)] rfl ?_)))
    refine WC.ret ?_
    refine ⟨[_, _, _], (res_tmp rfl (res_tmp rfl (res_tmp rfl res_nil))), ?_⟩
    exact ⟨by rw [rvV_none (by rw [i1, List.drop_of_length_le (by omega)]; rfl)]; rfl, M5.bare.take 0⟩
theorem mem_get {α : Type} {l : List α} {i : Nat} {y : α} (h : l[i]? = some y) : y ∈ l := List.mem_of_getElem? h
def rsV (l : List UInt8) : Value := .tuple #[.string (bs (rsT l)), .int .i64 (rsK l : Int), .bool (rsOK l)]
theorem rsV_none {l : List UInt8} (h : getS l = none) : rsV l = .tuple #[.string (bs []), .int .i64 0, .bool false] := by
  obtain ⟨e1, e2, e3⟩ := rs_eq_none h; simp only [rsV, e1, e2, e3]; rfl
theorem rsV_some {l t : List UInt8} {k : Nat} (h : getS l = some (t, k)) : rsV l = .tuple #[.string (bs t), .int .i64 (k : Int), .bool true] := by
  obtain ⟨e1, e2, e3⟩ := rs_eq_some h; simp only [rsV, e1, e2, e3]
theorem getS_no {l : List UInt8} (h : rvOK l = false) : getS l = none := by
  unfold getS; rw [getV_eq, h]; rfl
theorem getS_far {l : List UInt8} (h : l.length - rvK l < rvN l) : getS l = none := by
  unfold getS; rw [getV_eq]; cases rvOK l
  · rfl
  · simp only [if_true]; rw [if_neg (by omega)]
theorem getS_yes {l : List UInt8} (h : rvOK l = true) (h2 : rvN l ≤ l.length - rvK l) : getS l = some ((l.take (rvK l + rvN l)).drop (rvK l), rvK l + rvN l) := by
  unfold getS; rw [getV_eq, h]; simp only [if_true]; rw [if_pos h2, List.drop_take, Nat.add_sub_cancel_left]
theorem num_ReadS_ran {h : H} (W : Mem h h [] []) {l : List UInt8} (hl : l.length < 9223372036854775808) : Cll tab0 36 [.string (bs l)] h (fun v h2 => v = rsV l ∧ Mem h h2 [] []) := by
  have hk := rvK_le l
  have hn64 := rvN_lt l
  refine Cll.code rfl rfl ?_
  refine WC.env [(0, _)] rfl ?_
  refine WC.seq ?_
  refine WC.run ?_
  refine WS.op rfl rfl (WS.op rfl rfl (WS.op rfl rfl (WS.nil [(0, _)] rfl ?_)))
  refine WC.seq ?_
  refine WC.run ?_
  refine WS.op rfl rfl ?_
  refine WS.call rfl rfl rfl (num_ReadV_ran W.here (l := l) (by first | omega | (simp only [List.length_drop, List.length_take, List.length_append, List.length_cons, List.length_nil, List.length_singleton]; omega) | (simp only [List.length_drop, List.length_take, List.length_append, List.length_cons, List.length_nil, List.length_singleton] at *; omega))) ?_
  rintro _ h1 ⟨rfl, N2⟩
  have M3 := W.trans N2
  refine WS.op rfl rfl (WS.op rfl rfl (WS.op rfl rfl (WS.op rfl rfl (WS.op rfl rfl (WS.op rfl rfl (WS.op rfl rfl (WS.nil [(0, _), (4, _), (5, _), (6, _)] rfl ?_)))))))
  refine WC.seq ?_
  refine WC.seq ?_
  refine WC.run ?_
  refine WS.op rfl rfl ?_
  cases hb1 : (rvOK l)
  ·
   refine WS.opV (.bool true) rfl rfl rfl (WS.op rfl rfl (WS.off rfl (WS.off rfl (WS.off rfl (WS.off rfl (WS.off rfl (WS.off rfl (WS.off rfl (WS.op rfl rfl ?_)))))))))
   refine WS.nil [(0, _), (5, _), (6, _), (23, _)] rfl ?_
   refine WC.condT rfl ?_
   refine WC.seq ?_
   refine WC.run ?_
   refine WS.op rfl rfl (WS.op rfl rfl (WS.op rfl rfl (WS.nil [(2, _), (3, _), (4, _)] rfl ?_)))
   refine WC.ret ?_
   refine ⟨[_, _, _], (res_tmp rfl (res_tmp rfl (res_tmp rfl res_nil))), ?_⟩
   exact ⟨by rw [rsV_none (getS_no hb1)]; rfl, M3.bare.take 0⟩
  ·
   refine WS.opV (.bool false) rfl rfl rfl (WS.op rfl rfl (WS.op rfl rfl (WS.op rfl rfl (WS.op rfl (op_lenS (l := l) rfl) (WS.op rfl rfl (WS.opV (.int .i64 ((((l).length - (rvK l)) : Nat) : Int)) rfl rfl (sub_i64 (a := (l).length) (b := (rvK l)) (by have := rvK_le l; omega)) (WS.opV (.int .u64 ((((l).length - (rvK l)) : Nat) : Int)) rfl rfl (cv_u64 (n := ((l).length - (rvK l))) (by omega)) ?_)))))))
   refine WS.gtrN (a := (rvN l)) (b := ((l).length - (rvK l))) rfl rfl rfl (fun e22 => ?_) (fun e22 => ?_)
   ·
    refine WS.op rfl rfl (WS.nil [(0, _), (5, _), (6, _), (23, _)] rfl ?_)
    refine WC.condT rfl ?_
    refine WC.seq ?_
    refine WC.run ?_
    refine WS.op rfl rfl (WS.op rfl rfl (WS.op rfl rfl (WS.nil [(2, _), (3, _), (4, _)] rfl ?_)))
    refine WC.ret ?_
    refine ⟨[_, _, _], (res_tmp rfl (res_tmp rfl (res_tmp rfl res_nil))), ?_⟩
    exact ⟨by rw [rsV_none (getS_far (by omega))]; rfl, M3.bare.take 0⟩
   ·
    refine WS.op rfl rfl (WS.nil [(0, _), (5, _), (6, _), (23, _)] rfl ?_)
    refine WC.condF rfl ?_
    refine WC.skip ?_
    refine WC.seq ?_
    refine WC.run ?_
    refine WS.op rfl rfl (WS.op rfl rfl (WS.op rfl rfl (WS.op rfl rfl (WS.opV (.int .i64 (((rvN l) : Nat) : Int)) rfl rfl (cv_i64 (n := (rvN l)) (by have := rvN_lt l; omega)) (WS.opV (.int .i64 ((((rvK l) + (rvN l)) : Nat) : Int)) rfl rfl (add_i64 (a := (rvK l)) (b := (rvN l)) (by have := rvK_le l; have := rvN_lt l; omega)) (WS.op rfl (op_slS2 (l := l) (rvK l) ((rvK l) + (rvN l)) rfl rfl rfl (by first | omega | (simp only [List.length_drop, List.length_take, List.length_append, List.length_cons, List.length_nil, List.length_singleton]; omega) | (simp only [List.length_drop, List.length_take, List.length_append, List.length_cons, List.length_nil, List.length_singleton] at *; omega)) (by first | omega | (simp only [List.length_drop, List.length_take, List.length_append, List.length_cons, List.length_nil, List.length_singleton]; omega) | (simp only [List.length_drop, List.length_take, List.length_append, List.length_cons, List.length_nil, List.length_singleton] at *; omega))) (WS.op rfl rfl (WS.op rfl rfl (WS.opV (.int .i64 (((rvN l) : Nat) : Int)) rfl rfl (cv_i64 (n := (rvN l)) (by have := rvN_lt l; omega)) ?_)))))))))
    refine WS.opV (.int .i64 ((((rvK l) + (rvN l)) : Nat) : Int)) rfl rfl (add_i64 (a := (rvK l)) (b := (rvN l)) (by have := rvK_le l; have := rvN_lt l; omega)) (WS.op rfl rfl (WS.op rfl rfl (WS.op rfl rfl (WS.nil [(2, _), (3, _), (4, _)] rfl ?_))))
    refine WC.ret ?_
    refine ⟨[_, _, _], (res_tmp rfl (res_tmp rfl (res_tmp rfl res_nil))), ?_⟩
    exact ⟨by rw [rsV_some (getS_yes hb1 (by omega))]; rfl, M3.bare.take 0⟩
def val (t : List UInt8) : Nat := t.foldl (fun n c => 128 * n + c.toNat % 128) 0
end Go.Proofs.Ytomaijljeacpjaa.Wt
namespace Go.Proofs.Ytomaijljeacpjaa.Wt
open Go Go.Proofs.Ytomaijljeacpjaa.Am Go.Proofs.Ytomaijljeacpjaa.IrAll
set_option linter.unusedVariables false
set_option linter.unusedSimpArgs false
theorem u64_inj {a b : UInt64} (h : a.toNat = b.toNat) : a = b := UInt64.toNat_inj.1 h
structure Part where
  op : UInt8
  ky : List UInt8
  va : List UInt8
  deriving DecidableEq
structure Cmd where
  op : UInt8
  se : UInt64
  sq : UInt64
  ky : List UInt8
  va : List UInt8
  ex : List UInt8
  fr : List UInt8
  to : List UInt8
  li : UInt8
  le : UInt64
  tt : UInt64
  ps : List Part
  deriving DecidableEq
variable {h base : H} {L : List Seg} {R : List Nat}
def blank (c : Cmd) : Cmd := ⟨c.op, c.se, c.sq, [], [], [], [], [], 0, 0, 0, []⟩
def plain (c : Cmd) : Cmd :=
  if c.op.toNat = 1 ∨ c.op.toNat = 6 then { blank c with tt := c.tt }
  else if c.op.toNat = 2 then { blank c with ky := c.ky, va := c.va, le := c.le }
  else if c.op.toNat = 3 ∨ c.op.toNat = 8 then { blank c with ky := c.ky }
  else if c.op.toNat = 4 then { blank c with ky := c.ky, ex := c.ex, va := c.va }
  else if c.op.toNat = 5 then { blank c with ps := c.ps }
  else if c.op.toNat = 7 then { blank c with le := c.le }
  else if c.op.toNat = 9 then { blank c with fr := c.fr, to := c.to, li := c.li }
  else blank c
section
variable {c : Cmd}
end
end Go.Proofs.Ytomaijljeacpjaa.Wt
namespace Go.Proofs.Ytomaijljeacpjaa.Wt
open Go Go.Proofs.Ytomaijljeacpjaa.Am Go.Proofs.Ytomaijljeacpjaa.IrAll
set_option linter.unusedVariables false
set_option linter.unusedSimpArgs false
structure Oper where
  op : UInt8
  sl : UInt8
  t0 : UInt8
  t1 : UInt8
  t2 : UInt8
  t3 : UInt8
  t4 : UInt8
  t5 : UInt8
  t6 : UInt8
  t7 : UInt8
  ro : UInt8
  ks : Int64
  bt : Int64
  ra : Int64
  bu : Int64
  nd : UInt8
  deriving DecidableEq
def Sm (n : Int) : Prop := 0 ≤ n ∧ n ≤ 2147483647
instance (n : Int) : Decidable (Sm n) := by unfold Sm; infer_instance
variable {h base : H} {L : List Seg} {R : List Nat}
end Go.Proofs.Ytomaijljeacpjaa.Wt
namespace Go.Proofs.Ytomaijljeacpjaa.Wt
open Go Go.Proofs.Ytomaijljeacpjaa.Am Go.Proofs.Ytomaijljeacpjaa.IrAll
set_option linter.unusedVariables false
set_option linter.unusedSimpArgs false
variable {h base : H} {L : List Seg} {R : List Nat}
def nu (x : Int64) : UInt64 := UInt64.ofNat x.toInt.toNat
theorem nu_nat {x : Int64} (h : Sm x.toInt) : ((nu x).toNat : Int) = x.toInt := by
  unfold Sm at h
  have e : ∀ n : Nat, n < 18446744073709551616 → (UInt64.ofNat n).toNat = n := fun n hn => by simp [UInt64.toNat_ofNat']; omega
  unfold nu; rw [e _ (by omega)]; omega
theorem cvB {x : Int64} (h : Sm x.toInt) : Value.int .i64 (IntKind.i64.wrap ((min (nu x).toNat 4294967296 : Nat) : Int)) = .int .i64 x.toInt := by
  have hn := nu_nat h
  have h2 := h
  unfold Sm at h2
  have : min (nu x).toNat 4294967296 = (nu x).toNat := by omega
  rw [this, ← hn]; exact cv_i64 (n := (nu x).toNat) (by omega)
end Go.Proofs.Ytomaijljeacpjaa.Wt
