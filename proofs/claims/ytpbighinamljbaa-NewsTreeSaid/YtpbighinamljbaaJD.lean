/- The functions' abstract code. No condition. -/
import Derived.Test.YtpbighinamljbaaJC
import Derived.Test.YtpbighinamljbaaProg
import Derived.KernelRfl
import Derived.Sort.AssemblyPlain
import Derived.Sort.LotD7
import Derived.Sort.LotD4
import Derived.Sort.LotD5
import Derived.Shelf.SlIterI.Collect
set_option linter.unusedSectionVars false
set_option linter.unusedVariables false
set_option linter.unusedSimpArgs false
namespace Go.Proofs.Ytpbighinamljbaa.PA
open Go Go.Eng Go.Proofs
abbrev o (d : Nat) (x : XOp) : XOper := ⟨some d, x, none⟩
abbrev og (d : Nat) (x : XOp) (g : Nat) (b : Bool) : XOper := ⟨some d, x, some (g, b)⟩
def L6 : XFunc := .mk (.seq (.reg [o 2 (.mv (.k (.bool false)))]) (.seq (.reg [o 12 (.mv (.t 0)), o 13 (.call (.k (.fn 22 [])) [.t 12]), o 11 (.mv (.t 13)), o 14 (.ext (.t 11) 0), o 15 (.ext (.t 11) 1), o 3 (.mv (.t 14)), o 4 (.mv (.t 15))]) (.seq (.reg [o 16 (.mv (.t 4)), o 17 (.mv (.t 3)), o 18 (.bin .sub (.t 17) (.k (.int .i64 (.ofNat 1)))), o 19 (.cut 2 (.t 16) none (some (.t 18)) none), o 4 (.mv (.t 19))]) (.seq (.reg [o 21 (.mv (.t 3)), o 22 (.mv (.t 4)), o 23 (.call (.k (.fn 18 [])) [.t 21, .t 22]), o 20 (.mv (.t 23)), o 24 (.ext (.t 20) 0), o 25 (.ext (.t 20) 1), o 26 (.ext (.t 20) 2), o 5 (.mv (.t 24)), o 6 (.mv (.t 25)), o 7 (.mv (.t 26))]) (.seq (.seq (.reg [o 27 (.mv (.t 7)), o 28 (.bin .neq (.t 27) (.k (.int .i64 (.ofNat 0)))), o 29 (.mv (.t 28)), og 30 (.mv (.t 3)) 29 false, og 31 (.mv (.t 5)) 29 false, og 32 (.call (.k (.fn 24 [])) [.t 30, .t 31]) 29 false, og 33 (.un .not (.t 32)) 29 false, o 34 (.pick (.t 29) (.k (.bool true)) (.t 33)), o 35 (.mv (.t 34)), og 36 (.mv (.t 5)) 35 false, og 37 (.len (.t 36)) 35 false, og 38 (.bin .eql (.t 37) (.k (.int .i64 (.ofNat 0)))) 35 false, o 39 (.pick (.t 35) (.k (.bool true)) (.t 38)), o 40 (.mv (.t 39)), og 41 (.mv (.t 6)) 40 false, og 42 (.bin .lss (.t 41) (.k (.int .i64 (.ofNat 0)))) 40 false, o 43 (.pick (.t 40) (.k (.bool true)) (.t 42)), o 44 (.mv (.t 43)), og 45 (.call (.k (.fn 17 [])) []) 44 false, og 46 (.un .not (.t 45)) 44 false, o 47 (.pick (.t 44) (.k (.bool true)) (.t 46))]) (.cond (.t 47) (.seq (.reg [o 2 (.mv (.k (.bool false)))]) .ret) .skip)) (.seq (.seq (.reg [o 48 (.mv (.t 3)), o 49 (.bin .eql (.t 48) (.k (.int .i64 (.ofNat 1))))]) (.cond (.t 49) (.seq (.reg [o 50 (.mv (.t 5)), o 51 (.len (.t 50)), o 52 (.bin .eql (.t 51) (.k (.int .i64 (.ofNat 1)))), o 53 (.mv (.t 52)), og 54 (.mv (.t 6)) 53 true, og 55 (.bin .eql (.t 54) (.k (.int .i64 (.ofNat 0)))) 53 true, o 56 (.pick (.t 53) (.t 55) (.k (.bool false))), o 2 (.mv (.t 56))]) .ret) .skip)) (.seq (.reg [o 57 (.mv (.t 3)), o 58 (.mv (.t 4)), o 59 (.call (.k (.fn 19 [])) [.t 57, .t 58]), o 8 (.mv (.t 59)), o 9 (.mv (.k (.bool false)))]) (.seq (.seq (.reg [o 10 (.mv (.k (.int .i64 (.ofNat 0))))]) (.block 0 (.loop (.seq (.seq (.reg [o 60 (.mv (.t 10)), o 61 (.mv (.t 5)), o 62 (.len (.t 61)), o 63 (.bin .lss (.t 60) (.t 62))]) (.cond (.t 63) .skip (.exit 0))) (.seq (.block 1 (.regd [o 66 (.mv (.t 9)), o 67 (.mv (.t 66)), og 68 (.mv (.t 5)) 67 false, og 69 (.call (.k (.fn 25 [])) [.t 68]) 67 false, og 70 (.mv (.t 8)) 67 false, og 71 (.mv (.t 5)) 67 false, og 72 (.mv (.t 10)) 67 false, og 73 (.iaddr 1 (.t 71) (.t 72)) 67 false, og 74 (.load none (.t 73)) 67 false, og 75 (.iaddr 1 (.t 70) (.t 74)) 67 false, og 76 (.load none (.t 75)) 67 false, og 77 (.mv (.t 5)) 67 false, og 78 (.mv (.t 10)) 67 false, og 79 (.iaddr 1 (.t 77) (.t 78)) 67 false, og 80 (.load none (.t 79)) 67 false, og 81 (.bin .shl (.k (.int .i64 (.ofNat 1))) (.t 80)) 67 false, og 82 (.bin .or (.t 76) (.t 81)) 67 false, og 83 (.bin .andNot (.t 69) (.t 82)) 67 false, og 84 (.bin .eql (.t 83) (.k (.int .i64 (.ofNat 0)))) 67 false, o 85 (.pick (.t 67) (.k (.bool true)) (.t 84)), o 9 (.mv (.t 85))] [(8, [3], []), (10, [3], []), (14, [3], [])] [])) (.reg [o 64 (.mv (.t 10)), o 65 (.bin .add (.t 64) (.k (.int .i64 (.ofNat 1)))), o 10 (.mv (.t 65))])))))) (.seq (.reg [o 86 (.mv (.t 5)), o 87 (.len (.t 86)), o 88 (.bin .gtr (.t 87) (.k (.int .i64 (.ofNat 1)))), o 89 (.mv (.t 88)), og 90 (.mv (.t 9)) 89 true, o 91 (.pick (.t 89) (.t 90) (.k (.bool false))), o 2 (.mv (.t 91))]) .ret))))))))) 92 1 [.t 2]
theorem l6 : compFunc Try.prog 6 = some L6 := by kernel_rfl
def L17 : XFunc := .mk (.seq (.reg [o 0 (.mv (.k (.bool false)))]) (.seq (.reg [o 11 (.build [.int .i64 (.ofNat 0), .int .i64 (.ofNat 0)] [(0, 1, .k (.int .i64 (.ofNat 0))), (1, 1, .k (.int .i64 (.ofNat 1)))]), o 12 (.build [.int .i64 (.ofNat 0), .int .i64 (.ofNat 0)] [(0, 1, .k (.int .i64 (.ofNat 1))), (1, 1, .k (.int .i64 (.ofNat 2)))]), o 13 (.bslice [.int .i64 (.ofNat 0), .int .i64 (.ofNat 0)] [(0, 2, .t 11), (2, 2, .t 12)] 2), o 1 (.mv (.t 13))]) (.seq (.reg [o 15 (.call (.k (.fn 27 [])) [.k (.int .i64 (.ofNat 4))]), o 14 (.mv (.t 15)), o 16 (.ext (.t 14) 0), o 17 (.ext (.t 14) 1), o 2 (.mv (.t 16)), o 3 (.mv (.t 17))]) (.seq (.reg [o 19 (.mv (.t 1)), o 20 (.call (.k (.fn 23 [])) [.k (.int .i64 (.ofNat 3)), .t 19, .k (.int .i64 (.ofNat 1))]), o 18 (.mv (.t 20)), o 21 (.ext (.t 18) 0), o 22 (.ext (.t 18) 1), o 4 (.mv (.t 21)), o 5 (.mv (.t 22))]) (.seq (.reg [o 24 (.mv (.t 1)), o 25 (.call (.k (.fn 18 [])) [.k (.int .i64 (.ofNat 3)), .t 24]), o 23 (.mv (.t 25)), o 26 (.ext (.t 23) 0), o 27 (.ext (.t 23) 1), o 28 (.ext (.t 23) 2), o 6 (.mv (.t 26)), o 7 (.mv (.t 27)), o 8 (.mv (.t 28))]) (.seq (.reg [o 30 (.build [.int .i64 (.ofNat 0), .int .i64 (.ofNat 0)] [(0, 1, .k (.int .i64 (.ofNat 1))), (1, 1, .k (.int .i64 (.ofNat 0)))]), o 31 (.build [.int .i64 (.ofNat 0), .int .i64 (.ofNat 0)] [(0, 1, .k (.int .i64 (.ofNat 0))), (1, 1, .k (.int .i64 (.ofNat 1)))]), o 32 (.bslice [.int .i64 (.ofNat 0), .int .i64 (.ofNat 0)] [(0, 2, .t 30), (2, 2, .t 31)] 2), o 33 (.call (.k (.fn 34 [])) [.k (.int .i64 (.ofNat 2)), .t 32]), o 29 (.mv (.t 33)), o 34 (.ext (.t 29) 0), o 35 (.ext (.t 29) 1), o 9 (.mv (.t 34)), o 10 (.mv (.t 35))]) (.seq (.reg [o 36 (.mv (.t 2)), o 37 (.build [.int .i64 (.ofNat 0), .int .i64 (.ofNat 0)] [(0, 1, .k (.int .i64 (.ofNat 0))), (1, 1, .k (.int .i64 (.ofNat 1)))]), o 38 (.build [.int .i64 (.ofNat 0), .int .i64 (.ofNat 0)] [(0, 1, .k (.int .i64 (.ofNat 2))), (1, 1, .k (.int .i64 (.ofNat 3)))]), o 39 (.build [.int .i64 (.ofNat 0), .int .i64 (.ofNat 0)] [(0, 1, .k (.int .i64 (.ofNat 0))), (1, 1, .k (.int .i64 (.ofNat 2)))]), o 40 (.build [.int .i64 (.ofNat 0), .int .i64 (.ofNat 0)] [(0, 1, .k (.int .i64 (.ofNat 1))), (1, 1, .k (.int .i64 (.ofNat 3)))]), o 41 (.bslice [.int .i64 (.ofNat 0), .int .i64 (.ofNat 0)] [(0, 2, .t 37), (2, 2, .t 38), (4, 2, .t 39), (6, 2, .t 40)] 4), o 42 (.call (.k (.fn 32 [])) [.t 36, .t 41]), o 43 (.mv (.t 42)), og 44 (.mv (.t 3)) 43 true, og 45 (.bin .eql (.t 44) (.k (.int .i64 (.ofNat 0)))) 43 true, o 46 (.pick (.t 43) (.t 45) (.k (.bool false))), o 47 (.mv (.t 46)), og 48 (.mv (.t 4)) 47 true, og 49 (.bin .eql (.t 48) (.k (.int .i64 (.ofNat 2)))) 47 true, o 50 (.pick (.t 47) (.t 49) (.k (.bool false))), o 51 (.mv (.t 50)), og 52 (.mv (.t 5)) 51 true, og 53 (.bin .eql (.t 52) (.k (.int .i64 (.ofNat 0)))) 51 true, o 54 (.pick (.t 51) (.t 53) (.k (.bool false))), o 55 (.mv (.t 54)), og 56 (.mv (.t 6)) 55 true, og 57 (.bslice [.int .i64 (.ofNat 0)] [(0, 1, .k (.int .i64 (.ofNat 0))), (1, 1, .k (.int .i64 (.ofNat 1))), (2, 1, .k (.int .i64 (.ofNat 2)))] 3) 55 true, og 58 (.call (.k (.fn 21 [])) [.t 56, .t 57]) 55 true, o 59 (.pick (.t 55) (.t 58) (.k (.bool false))), o 60 (.mv (.t 59)), og 61 (.mv (.t 7)) 60 true, og 62 (.bin .eql (.t 61) (.k (.int .i64 (.ofNat 2)))) 60 true, o 63 (.pick (.t 60) (.t 62) (.k (.bool false))), o 64 (.mv (.t 63)), og 65 (.mv (.t 8)) 64 true, og 66 (.bin .eql (.t 65) (.k (.int .i64 (.ofNat 0)))) 64 true, o 67 (.pick (.t 64) (.t 66) (.k (.bool false))), o 68 (.mv (.t 67)), og 69 (.mv (.t 9)) 68 true, og 70 (.bin .eql (.t 69) (.k (.int .i64 (.ofNat 1)))) 68 true, o 71 (.pick (.t 68) (.t 70) (.k (.bool false))), o 72 (.mv (.t 71)), og 73 (.mv (.t 10)) 72 true, og 74 (.bin .eql (.t 73) (.k (.int .i64 (.ofNat 0)))) 72 true, o 75 (.pick (.t 72) (.t 74) (.k (.bool false))), o 0 (.mv (.t 75))]) .ret))))))) 76 0 [.t 0]
theorem l17 : compFunc Try.prog 17 = some L17 := by kernel_rfl
def L18 : XFunc := .mk (.seq (.reg [o 4 (.mv (.k .nils)), o 5 (.mv (.k (.int .i64 (.ofNat 0)))), o 6 (.mv (.k (.int .i64 (.ofNat 0))))]) (.seq (.reg [o 14 (.mv (.t 0)), o 15 (.mv (.t 1)), o 16 (.call (.k (.fn 46 [])) [.t 14, .t 15]), o 13 (.mv (.t 16)), o 17 (.ext (.t 13) 0), o 18 (.ext (.t 13) 1), o 7 (.mv (.t 17)), o 8 (.mv (.t 18))]) (.seq (.seq (.reg [o 19 (.mv (.t 8)), o 20 (.un .not (.t 19))]) (.cond (.t 20) (.seq (.reg [o 4 (.mv (.k .nils)), o 5 (.mv (.k (.int .i64 (.ofNat 0)))), o 6 (.mv (.k (.int .i64 (.ofNat 1))))]) .ret) .skip)) (.seq (.reg [o 9 (.mv (.k .nils))]) (.seq (.reg [o 21 (.mv (.t 0)), o 10 (.mv (.t 21))]) (.seq (.seq (.reg [o 22 (.mv (.t 0)), o 23 (.mv (.k (.int .i64 (.ofNat 0))))]) (.block 0 (.loop (.seq (.reg [o 24 (.bin .lss (.t 23) (.t 22))]) (.seq (.cond (.t 24) .skip (.exit 0)) (.seq (.block 1 (.seq (.reg [o 25 (.mv (.t 23)), o 11 (.mv (.t 25))]) (.seq (.reg [o 26 (.mv (.t 7)), o 27 (.mv (.t 11)), o 28 (.call (.k (.fn 47 [])) [.t 26, .t 27]), o 29 (.len (.t 28)), o 12 (.mv (.t 29))]) (.block 2 (.seq (.reg [o 31 (.mv (.t 12)), o 32 (.mv (.t 10)), o 33 (.bin .lss (.t 31) (.t 32)), o 30 (.mv (.t 33))]) (.cond (.t 30) (.reg [o 34 (.mv (.t 12)), o 35 (.mv (.t 11)), o 36 (.bslice [.int .i64 (.ofNat 0)] [(0, 1, .t 35)] 1), o 10 (.mv (.t 34)), o 9 (.mv (.t 36))]) (.seq (.reg [o 38 (.mv (.t 12)), o 39 (.mv (.t 10)), o 40 (.bin .eql (.t 38) (.t 39)), o 37 (.mv (.t 40))]) (.cond (.t 37) (.reg [o 41 (.mv (.t 9)), o 42 (.mv (.t 11)), o 43 (.bslice [.int .i64 (.ofNat 0)] [(0, 1, .t 42)] 1), o 44 (.app 1 8 (.t 41) (.t 43)), o 9 (.mv (.t 44))]) .skip)))))))) (.reg [o 45 (.bin .add (.t 23) (.k (.int .i64 (.ofNat 1)))), o 23 (.mv (.t 45))]))))))) (.seq (.reg [o 46 (.mv (.t 9)), o 47 (.mv (.t 10)), o 4 (.mv (.t 46)), o 5 (.mv (.t 47)), o 6 (.mv (.k (.int .i64 (.ofNat 0))))]) .ret))))))) 48 2 [.t 4, .t 5, .t 6]
theorem l18 : compFunc Try.prog 18 = some L18 := by kernel_rfl
def L19 : XFunc := .mk (.seq (.reg [o 4 (.mv (.k .nils))]) (.seq (.reg [o 7 (.mv (.t 0)), o 8 (.mkslice [.int .i64 (.ofNat 0)] 8 (.t 7) (.t 7)), o 5 (.mv (.t 8))]) (.seq (.seq (.reg [o 6 (.mv (.k (.int .i64 (.ofNat 0))))]) (.block 0 (.loop (.seq (.seq (.reg [o 9 (.mv (.t 6)), o 10 (.mv (.t 1)), o 11 (.len (.t 10)), o 12 (.bin .lss (.t 9) (.t 11))]) (.cond (.t 12) .skip (.exit 0))) (.seq (.block 1 (.seq (.regd [o 15 (.mv (.t 5)), o 16 (.mv (.t 1)), o 17 (.mv (.t 6)), o 18 (.iaddr 2 (.t 16) (.t 17)), o 19 (.faddr 0 (.t 18)), o 20 (.load none (.t 19)), o 21 (.iaddr 1 (.t 15) (.t 20)), o 22 (.load none (.t 21)), o 23 (.mv (.t 1)), o 24 (.mv (.t 6)), o 25 (.iaddr 2 (.t 23) (.t 24)), o 26 (.faddr 1 (.t 25)), o 27 (.load none (.t 26)), o 28 (.bin .shl (.k (.int .i64 (.ofNat 1))) (.t 27)), o 29 (.bin .or (.t 22) (.t 28)), o 30 (.iaddr 1 (.t 15) (.t 20)), .mk none (.store 1 (.t 30) (.t 29)) none] [] []) (.regd [o 31 (.mv (.t 5)), o 32 (.mv (.t 1)), o 33 (.mv (.t 6)), o 34 (.iaddr 2 (.t 32) (.t 33)), o 35 (.faddr 1 (.t 34)), o 36 (.load none (.t 35)), o 37 (.iaddr 1 (.t 31) (.t 36)), o 38 (.load none (.t 37)), o 39 (.mv (.t 1)), o 40 (.mv (.t 6)), o 41 (.iaddr 2 (.t 39) (.t 40)), o 42 (.faddr 0 (.t 41)), o 43 (.load none (.t 42)), o 44 (.bin .shl (.k (.int .i64 (.ofNat 1))) (.t 43)), o 45 (.bin .or (.t 38) (.t 44)), o 46 (.iaddr 1 (.t 31) (.t 36)), .mk none (.store 1 (.t 46) (.t 45)) none] [] []))) (.reg [o 13 (.mv (.t 6)), o 14 (.bin .add (.t 13) (.k (.int .i64 (.ofNat 1)))), o 6 (.mv (.t 14))])))))) (.seq (.reg [o 47 (.mv (.t 5)), o 4 (.mv (.t 47))]) .ret)))) 48 2 [.t 4]
theorem l19 : compFunc Try.prog 19 = some L19 := by kernel_rfl
def L21 : XFunc := .mk (.seq (.reg [o 4 (.mv (.k (.bool false)))]) (.seq (.reg [o 5 (.mv (.t 0)), o 6 (.mv (.t 1)), o 7 (.call (.k (.fn 49 [])) [.t 5, .t 6]), o 8 (.un .not (.t 7)), o 9 (.mv (.t 8)), og 10 (.mv (.t 1)) 9 true, og 11 (.mv (.t 0)) 9 true, og 12 (.call (.k (.fn 49 [])) [.t 10, .t 11]) 9 true, og 13 (.un .not (.t 12)) 9 true, o 14 (.pick (.t 9) (.t 13) (.k (.bool false))), o 4 (.mv (.t 14))]) .ret)) 15 2 [.t 4]
theorem l21 : compFunc Try.prog 21 = some L21 := by kernel_rfl
def L22 : XFunc := .mk (.seq (.reg [o 2 (.mv (.k (.int .i64 (.ofNat 0)))), o 3 (.mv (.k .nils))]) (.seq (.reg [o 9 (.bslice [.int .i64 (.ofNat 0), .int .i64 (.ofNat 0)] [] 0), o 4 (.mv (.k (.int .i64 (.ofNat 1)))), o 5 (.mv (.t 9))]) (.seq (.seq (.reg [o 6 (.mv (.k (.int .i64 (.ofNat 0))))]) (.block 0 (.loop (.seq (.seq (.reg [o 10 (.mv (.t 6)), o 11 (.mv (.t 0)), o 12 (.len (.t 11)), o 13 (.bin .lss (.t 10) (.t 12)), o 14 (.mv (.t 13)), og 15 (.mv (.t 4)) 14 true, og 16 (.bin .lss (.t 15) (.k (.int .i64 (.ofNat 10)))) 14 true, o 17 (.pick (.t 14) (.t 16) (.k (.bool false))), o 18 (.mv (.t 17)), og 19 (.mv (.t 0)) 18 true, og 20 (.mv (.t 6)) 18 true, og 21 (.iaddr 2 (.t 19) (.t 20)) 18 true, og 22 (.aaddr 2 1 (.t 21) (.k (.int .i64 (.ofNat 1)))) 18 true, og 23 (.load none (.t 22)) 18 true, og 24 (.bin .rem (.t 23) (.k (.int .u8 (.ofNat 4)))) 18 true, og 25 (.bin .gtr (.t 24) (.k (.int .u8 (.ofNat 0)))) 18 true, o 26 (.pick (.t 18) (.t 25) (.k (.bool false)))]) (.cond (.t 26) .skip (.exit 0))) (.seq (.block 1 (.seq (.reg [o 29 (.mv (.t 5)), o 30 (.mv (.t 0)), o 31 (.mv (.t 6)), o 32 (.iaddr 2 (.t 30) (.t 31)), o 33 (.aaddr 2 1 (.t 32) (.k (.int .i64 (.ofNat 0)))), o 34 (.load none (.t 33)), o 35 (.conv .i64 (.t 34)), o 36 (.mv (.t 4)), o 37 (.bin .rem (.t 35) (.t 36)), o 38 (.mv (.t 4)), o 39 (.build [.int .i64 (.ofNat 0), .int .i64 (.ofNat 0)] [(0, 1, .t 37), (1, 1, .t 38)]), o 40 (.bslice [.int .i64 (.ofNat 0), .int .i64 (.ofNat 0)] [(0, 2, .t 39)] 1), o 41 (.app 2 16 (.t 29) (.t 40)), o 5 (.mv (.t 41))]) (.reg [o 42 (.mv (.t 4)), o 43 (.bin .add (.t 42) (.k (.int .i64 (.ofNat 1)))), o 4 (.mv (.t 43))]))) (.reg [o 27 (.mv (.t 6)), o 28 (.bin .add (.t 27) (.k (.int .i64 (.ofNat 1)))), o 6 (.mv (.t 28))])))))) (.seq (.seq (.reg [o 44 (.mv (.t 4)), o 45 (.bin .sub (.t 44) (.k (.int .i64 (.ofNat 1)))), o 7 (.mv (.t 45))]) (.block 2 (.loop (.seq (.seq (.reg [o 46 (.mv (.t 7)), o 47 (.mv (.t 0)), o 48 (.len (.t 47)), o 49 (.bin .lss (.t 46) (.t 48)), o 50 (.mv (.t 49)), og 51 (.mv (.t 4)) 50 true, og 52 (.bin .gtr (.t 51) (.k (.int .i64 (.ofNat 1)))) 50 true, o 53 (.pick (.t 50) (.t 52) (.k (.bool false))), o 54 (.mv (.t 53)), og 55 (.mv (.t 5)) 54 true, og 56 (.len (.t 55)) 54 true, og 57 (.bin .lss (.t 56) (.k (.int .i64 (.ofNat 30)))) 54 true, o 58 (.pick (.t 54) (.t 57) (.k (.bool false)))]) (.cond (.t 58) .skip (.exit 2))) (.seq (.block 3 (.seq (.reg [o 61 (.mv (.t 0)), o 62 (.mv (.t 7)), o 63 (.iaddr 2 (.t 61) (.t 62)), o 64 (.aaddr 2 1 (.t 63) (.k (.int .i64 (.ofNat 0)))), o 65 (.load none (.t 64)), o 66 (.conv .i64 (.t 65)), o 67 (.mv (.t 4)), o 68 (.bin .rem (.t 66) (.t 67)), o 8 (.mv (.t 68))]) (.reg [o 69 (.mv (.t 5)), o 70 (.mv (.t 8)), o 71 (.mv (.t 8)), o 72 (.bin .add (.t 71) (.k (.int .i64 (.ofNat 1)))), o 73 (.mv (.t 0)), o 74 (.mv (.t 7)), o 75 (.iaddr 2 (.t 73) (.t 74)), o 76 (.aaddr 2 1 (.t 75) (.k (.int .i64 (.ofNat 1)))), o 77 (.load none (.t 76)), o 78 (.conv .i64 (.t 77)), o 79 (.mv (.t 4)), o 80 (.bin .sub (.t 79) (.k (.int .i64 (.ofNat 1)))), o 81 (.bin .rem (.t 78) (.t 80)), o 82 (.bin .add (.t 72) (.t 81)), o 83 (.mv (.t 4)), o 84 (.bin .rem (.t 82) (.t 83)), o 85 (.build [.int .i64 (.ofNat 0), .int .i64 (.ofNat 0)] [(0, 1, .t 70), (1, 1, .t 84)]), o 86 (.bslice [.int .i64 (.ofNat 0), .int .i64 (.ofNat 0)] [(0, 2, .t 85)] 1), o 87 (.app 2 16 (.t 69) (.t 86)), o 5 (.mv (.t 87))]))) (.reg [o 59 (.mv (.t 7)), o 60 (.bin .add (.t 59) (.k (.int .i64 (.ofNat 1)))), o 7 (.mv (.t 60))])))))) (.seq (.reg [o 88 (.mv (.t 4)), o 89 (.mv (.t 5)), o 2 (.mv (.t 88)), o 3 (.mv (.t 89))]) .ret))))) 90 1 [.t 2, .t 3]
theorem l22 : compFunc Try.prog 22 = some L22 := by kernel_rfl
def L23 : XFunc := .mk (.seq (.reg [o 6 (.mv (.k (.int .i64 (.ofNat 0)))), o 7 (.mv (.k (.int .i64 (.ofNat 0))))]) (.seq (.reg [o 11 (.mv (.t 0)), o 12 (.mv (.t 1)), o 13 (.mv (.t 2)), o 14 (.call (.k (.fn 50 [])) [.t 11, .t 12, .t 13]), o 10 (.mv (.t 14)), o 15 (.ext (.t 10) 0), o 16 (.ext (.t 10) 1), o 8 (.mv (.t 15)), o 9 (.mv (.t 16))]) (.seq (.seq (.reg [o 17 (.mv (.t 9)), o 18 (.un .not (.t 17))]) (.cond (.t 18) (.seq (.reg [o 6 (.mv (.k (.int .i64 (.ofNat 0)))), o 7 (.mv (.k (.int .i64 (.ofNat 1))))]) .ret) .skip)) (.seq (.reg [o 19 (.mv (.t 8)), o 20 (.mv (.t 2)), o 21 (.call (.k (.fn 47 [])) [.t 19, .t 20]), o 22 (.len (.t 21)), o 6 (.mv (.t 22)), o 7 (.mv (.k (.int .i64 (.ofNat 0))))]) .ret)))) 23 3 [.t 6, .t 7]
theorem l23 : compFunc Try.prog 23 = some L23 := by kernel_rfl
def L24 : XFunc := .mk (.seq (.reg [o 4 (.mv (.k (.bool false)))]) (.seq (.seq (.reg [o 5 (.mv (.k (.int .i64 (.ofNat 0))))]) (.block 0 (.loop (.seq (.seq (.reg [o 6 (.mv (.t 5)), o 7 (.mv (.t 1)), o 8 (.len (.t 7)), o 9 (.bin .lss (.t 6) (.t 8))]) (.cond (.t 9) .skip (.exit 0))) (.seq (.block 1 (.seq (.regd [o 12 (.mv (.t 1)), o 13 (.mv (.t 5)), o 14 (.iaddr 1 (.t 12) (.t 13)), o 15 (.load none (.t 14)), o 16 (.mv (.t 0)), o 17 (.bin .sub (.t 16) (.k (.int .i64 (.ofNat 1)))), o 18 (.call (.k (.fn 51 [])) [.t 15, .k (.int .i64 (.ofNat 0)), .t 17]), o 19 (.un .not (.t 18)), o 20 (.mv (.t 19)), og 21 (.mv (.t 5)) 20 false, og 22 (.bin .gtr (.t 21) (.k (.int .i64 (.ofNat 0)))) 20 false, og 23 (.mv (.t 22)) 20 false, og 24 (.mv (.t 1)) 23 true, og 25 (.mv (.t 5)) 23 true, og 26 (.iaddr 1 (.t 24) (.t 25)) 23 true, og 27 (.load none (.t 26)) 23 true, og 28 (.mv (.t 1)) 23 true, og 29 (.mv (.t 5)) 23 true, og 30 (.bin .sub (.t 29) (.k (.int .i64 (.ofNat 1)))) 23 true, og 31 (.iaddr 1 (.t 28) (.t 30)) 23 true, og 32 (.load none (.t 31)) 23 true, og 33 (.bin .leq (.t 27) (.t 32)) 23 true, og 34 (.pick (.t 23) (.t 33) (.k (.bool false))) 20 false, o 35 (.pick (.t 20) (.k (.bool true)) (.t 34))] [] []) (.cond (.t 35) (.seq (.reg [o 4 (.mv (.k (.bool false)))]) .ret) .skip))) (.reg [o 10 (.mv (.t 5)), o 11 (.bin .add (.t 10) (.k (.int .i64 (.ofNat 1)))), o 5 (.mv (.t 11))])))))) (.seq (.reg [o 4 (.mv (.k (.bool true)))]) .ret))) 36 2 [.t 4]
theorem l24 : compFunc Try.prog 24 = some L24 := by kernel_rfl
def L25 : XFunc := .mk (.seq (.reg [o 2 (.mv (.k (.int .i64 (.ofNat 0))))]) (.seq (.reg [o 3 (.mv (.k (.int .i64 (.ofNat 0))))]) (.seq (.seq (.reg [o 4 (.mv (.k (.int .i64 (.ofNat 0))))]) (.block 0 (.loop (.seq (.seq (.reg [o 5 (.mv (.t 4)), o 6 (.mv (.t 0)), o 7 (.len (.t 6)), o 8 (.bin .lss (.t 5) (.t 7))]) (.cond (.t 8) .skip (.exit 0))) (.seq (.block 1 (.reg [o 11 (.mv (.t 3)), o 12 (.mv (.t 0)), o 13 (.mv (.t 4)), o 14 (.iaddr 1 (.t 12) (.t 13)), o 15 (.load none (.t 14)), o 16 (.bin .shl (.k (.int .i64 (.ofNat 1))) (.t 15)), o 17 (.bin .or (.t 11) (.t 16)), o 3 (.mv (.t 17))])) (.reg [o 9 (.mv (.t 4)), o 10 (.bin .add (.t 9) (.k (.int .i64 (.ofNat 1)))), o 4 (.mv (.t 10))])))))) (.seq (.reg [o 18 (.mv (.t 3)), o 2 (.mv (.t 18))]) .ret)))) 19 1 [.t 2]
theorem l25 : compFunc Try.prog 25 = some L25 := by kernel_rfl
def L27 : XFunc := .mk (.seq (.reg [o 2 (.mv (.k .nils)), o 3 (.mv (.k (.int .i64 (.ofNat 0))))]) (.seq (.seq (.reg [o 4 (.mv (.t 0)), o 5 (.bin .lss (.t 4) (.k (.int .i64 (.ofNat 1)))), o 6 (.mv (.t 5)), og 7 (.mv (.t 0)) 6 false, og 8 (.bin .gtr (.t 7) (.k (.int .i64 (.ofNat 5)))) 6 false, o 9 (.pick (.t 6) (.k (.bool true)) (.t 8))]) (.cond (.t 9) (.seq (.reg [o 2 (.mv (.k .nils)), o 3 (.mv (.k (.int .i64 (.ofNat 1))))]) .ret) .skip)) (.seq (.reg [o 10 (.mv (.t 0)), o 11 (.mv (.t 0)), o 12 (.call (.k (.fn 54 [])) [.t 11]), o 13 (.mv (.t 0)), o 14 (.call (.k (.fn 52 [])) [.t 13]), o 15 .mkmap, o 16 (.call (.k (.fn 53 [])) [.t 10, .t 12, .t 14, .t 15]), o 2 (.mv (.t 16)), o 3 (.mv (.k (.int .i64 (.ofNat 0))))]) .ret))) 17 1 [.t 2, .t 3]
theorem l27 : compFunc Try.prog 27 = some L27 := by kernel_rfl
def L32 : XFunc := .mk (.seq (.reg [o 4 (.mv (.k (.bool false)))]) (.seq (.seq (.reg [o 6 (.mv (.t 0)), o 7 (.len (.t 6)), o 8 (.mv (.t 1)), o 9 (.len (.t 8)), o 10 (.bin .neq (.t 7) (.t 9))]) (.cond (.t 10) (.seq (.reg [o 4 (.mv (.k (.bool false)))]) .ret) .skip)) (.seq (.seq (.reg [o 5 (.mv (.k (.int .i64 (.ofNat 0))))]) (.block 0 (.loop (.seq (.seq (.reg [o 11 (.mv (.t 5)), o 12 (.mv (.t 0)), o 13 (.len (.t 12)), o 14 (.bin .lss (.t 11) (.t 13))]) (.cond (.t 14) .skip (.exit 0))) (.seq (.block 1 (.seq (.regd [o 17 (.mv (.t 0)), o 18 (.mv (.t 5)), o 19 (.iaddr 2 (.t 17) (.t 18)), o 20 (.load (some 2) (.t 19)), o 21 (.mv (.t 1)), o 22 (.mv (.t 5)), o 23 (.iaddr 2 (.t 21) (.t 22)), o 24 (.load (some 2) (.t 23)), o 25 (.eqf true (.mk true [.i .i64, .i .i64]) (.t 20) (.t 24))] [] []) (.cond (.t 25) (.seq (.reg [o 4 (.mv (.k (.bool false)))]) .ret) .skip))) (.reg [o 15 (.mv (.t 5)), o 16 (.bin .add (.t 15) (.k (.int .i64 (.ofNat 1)))), o 5 (.mv (.t 16))])))))) (.seq (.reg [o 4 (.mv (.k (.bool true)))]) .ret)))) 26 2 [.t 4]
theorem l32 : compFunc Try.prog 32 = some L32 := by kernel_rfl
def L34 : XFunc := .mk (.seq (.reg [o 4 (.mv (.k (.int .i64 (.ofNat 0)))), o 5 (.mv (.k (.int .i64 (.ofNat 0))))]) (.seq (.seq (.reg [o 9 (.mv (.t 0)), o 10 (.mv (.t 1)), o 11 (.call (.k (.fn 57 [])) [.t 9, .t 10]), o 6 (.mv (.t 11))]) (.seq (.reg [o 12 (.mv (.t 6)), o 13 (.bin .neq (.t 12) (.k (.int .i64 (.ofNat 0))))]) (.cond (.t 13) (.seq (.reg [o 14 (.mv (.t 6)), o 4 (.mv (.k (.int .i64 (.ofNat 0)))), o 5 (.mv (.t 14))]) .ret) .skip))) (.seq (.reg [o 15 (.mv (.t 0)), o 16 (.call (.k (.fn 54 [])) [.t 15]), o 7 (.alloc [.int .u8 (.ofNat 0), .int .u8 (.ofNat 0), .int .u8 (.ofNat 0), .int .u8 (.ofNat 0), .int .u8 (.ofNat 0), .int .u8 (.ofNat 0)]), .mk none (.store 6 (.t 7) (.t 16)) none]) (.seq (.reg [o 8 (.mv (.k (.int .i64 (.ofNat 0))))]) (.block 0 (.loop (.seq (.block 1 (.seq (.seq (.reg [o 19 (.load (some 6) (.t 7)), o 20 (.mv (.t 0)), o 21 (.call (.k (.fn 58 [])) [.t 19, .t 20])]) (.cond (.t 21) (.seq (.reg [o 22 (.mv (.t 8)), o 4 (.mv (.t 22)), o 5 (.mv (.k (.int .i64 (.ofNat 0))))]) .ret) .skip)) (.seq (.seq (.reg [o 23 (.mv (.t 8)), o 24 (.mv (.t 1)), o 25 (.len (.t 24)), o 26 (.bin .eql (.t 23) (.t 25))]) (.cond (.t 26) (.seq (.reg [o 4 (.mv (.k (.int .i64 (.ofNat 0)))), o 5 (.mv (.k (.int .i64 (.ofNat 5))))]) .ret) .skip)) (.regd [o 27 (.load (some 6) (.t 7)), o 28 (.mv (.t 1)), o 29 (.mv (.t 8)), o 30 (.iaddr 2 (.t 28) (.t 29)), o 31 (.load (some 2) (.t 30)), o 32 (.call (.k (.fn 59 [])) [.t 27, .t 31]), .mk none (.store 6 (.t 7) (.t 32)) none] [] [])))) (.reg [o 17 (.mv (.t 8)), o 18 (.bin .add (.t 17) (.k (.int .i64 (.ofNat 1)))), o 8 (.mv (.t 18))])))))))) 33 2 [.t 4, .t 5]
theorem l34 : compFunc Try.prog 34 = some L34 := by kernel_rfl
def L43 : XFunc := .mk (.seq (.reg [o 6 (.mv (.k (.int .i64 (.ofNat 0))))]) (.seq (.reg [o 8 (.mv (.t 1)), o 9 (.bin .shl (.k (.int .i64 (.ofNat 1))) (.t 8)), o 7 (.mv (.t 9))]) (.seq (.block 0 (.loop (.seq (.seq (.reg [o 10 (.mv (.t 2)), o 11 (.bin .gtr (.t 10) (.k (.int .i64 (.ofNat 0))))]) (.cond (.t 11) .skip (.exit 0))) (.seq (.block 1 (.reg [o 14 (.mv (.t 7)), o 15 (.mv (.t 0)), o 16 (.mv (.t 7)), o 17 (.call (.k (.fn 65 [])) [.t 15, .t 16]), o 18 (.bin .or (.t 14) (.t 17)), o 7 (.mv (.t 18))])) (.reg [o 12 (.mv (.t 2)), o 13 (.bin .sub (.t 12) (.k (.int .i64 (.ofNat 1)))), o 2 (.mv (.t 13))]))))) (.seq (.reg [o 19 (.mv (.t 7)), o 6 (.mv (.t 19))]) .ret)))) 20 3 [.t 6]
theorem l43 : compFunc Try.prog 43 = some L43 := by kernel_rfl
def L44 : XFunc := .mk (.seq (.reg [o 4 (.mv (.k (.bool false)))]) (.seq (.seq (.reg [o 5 (.mv (.k (.int .i64 (.ofNat 0))))]) (.block 0 (.loop (.seq (.seq (.reg [o 6 (.mv (.t 5)), o 7 (.mv (.t 1)), o 8 (.len (.t 7)), o 9 (.bin .lss (.t 6) (.t 8))]) (.cond (.t 9) .skip (.exit 0))) (.seq (.block 1 (.seq (.regd [o 12 (.mv (.t 1)), o 13 (.mv (.t 5)), o 14 (.iaddr 2 (.t 12) (.t 13)), o 15 (.faddr 0 (.t 14)), o 16 (.load none (.t 15)), o 17 (.mv (.t 0)), o 18 (.bin .sub (.t 17) (.k (.int .i64 (.ofNat 1)))), o 19 (.call (.k (.fn 66 [])) [.t 16, .k (.int .i64 (.ofNat 0)), .t 18]), o 20 (.un .not (.t 19)), o 21 (.mv (.t 20)), og 22 (.mv (.t 1)) 21 false, og 23 (.mv (.t 5)) 21 false, og 24 (.iaddr 2 (.t 22) (.t 23)) 21 false, og 25 (.faddr 1 (.t 24)) 21 false, og 26 (.load none (.t 25)) 21 false, og 27 (.mv (.t 0)) 21 false, og 28 (.bin .sub (.t 27) (.k (.int .i64 (.ofNat 1)))) 21 false, og 29 (.call (.k (.fn 66 [])) [.t 26, .k (.int .i64 (.ofNat 0)), .t 28]) 21 false, og 30 (.un .not (.t 29)) 21 false, o 31 (.pick (.t 21) (.k (.bool true)) (.t 30)), o 32 (.mv (.t 31)), og 33 (.mv (.t 1)) 32 false, og 34 (.mv (.t 5)) 32 false, og 35 (.iaddr 2 (.t 33) (.t 34)) 32 false, og 36 (.faddr 0 (.t 35)) 32 false, og 37 (.load none (.t 36)) 32 false, og 38 (.mv (.t 1)) 32 false, og 39 (.mv (.t 5)) 32 false, og 40 (.iaddr 2 (.t 38) (.t 39)) 32 false, og 41 (.faddr 1 (.t 40)) 32 false, og 42 (.load none (.t 41)) 32 false, og 43 (.bin .eql (.t 37) (.t 42)) 32 false, o 44 (.pick (.t 32) (.k (.bool true)) (.t 43))] [] []) (.cond (.t 44) (.seq (.reg [o 4 (.mv (.k (.bool false)))]) .ret) .skip))) (.reg [o 10 (.mv (.t 5)), o 11 (.bin .add (.t 10) (.k (.int .i64 (.ofNat 1)))), o 5 (.mv (.t 11))])))))) (.seq (.reg [o 45 (.mv (.t 0)), o 46 (.call (.k (.fn 66 [])) [.t 45, .k (.int .i64 (.ofNat 1)), .k (.int .i64 (.ofNat 10))]), o 47 (.mv (.t 46)), og 48 (.mv (.t 1)) 47 true, og 49 (.len (.t 48)) 47 true, og 50 (.bin .leq (.t 49) (.k (.int .i64 (.ofNat 60)))) 47 true, o 51 (.pick (.t 47) (.t 50) (.k (.bool false))), o 4 (.mv (.t 51))]) .ret))) 52 2 [.t 4]
theorem l44 : compFunc Try.prog 44 = some L44 := by kernel_rfl
def L45 : XFunc := .mk (.seq (.reg [o 2 (.mv (.k (.bool false)))]) (.seq (.regd [o 3 (.mv (.t 0)), o 4 (.mv (.t 0)), o 5 (.len (.t 4)), o 6 (.call (.k (.fn 43 [])) [.t 3, .k (.int .i64 (.ofNat 0)), .t 5]), o 7 (.mv (.t 0)), o 8 (.len (.t 7)), o 9 (.bin .shl (.k (.int .i64 (.ofNat 1))) (.t 8)), o 10 (.bin .sub (.t 9) (.k (.int .i64 (.ofNat 1)))), o 11 (.bin .eql (.t 6) (.t 10)), o 2 (.mv (.t 11))] [] []) .ret)) 12 1 [.t 2]
theorem l45 : compFunc Try.prog 45 = some L45 := by kernel_rfl
def L46 : XFunc := .mk (.seq (.reg [o 4 (.mv (.k .nilp)), o 5 (.mv (.k (.bool false)))]) (.seq (.seq (.reg [o 12 (.mv (.t 0)), o 13 (.bin .lss (.t 12) (.k (.int .i64 (.ofNat 1)))), o 14 (.mv (.t 13)), og 15 (.mv (.t 0)) 14 false, og 16 (.bin .gtr (.t 15) (.k (.int .i64 (.ofNat 10)))) 14 false, o 17 (.pick (.t 14) (.k (.bool true)) (.t 16)), o 18 (.mv (.t 17)), og 19 (.mv (.t 1)) 18 false, og 20 (.len (.t 19)) 18 false, og 21 (.bin .gtr (.t 20) (.k (.int .i64 (.ofNat 60)))) 18 false, o 22 (.pick (.t 18) (.k (.bool true)) (.t 21))]) (.cond (.t 22) (.seq (.reg [o 4 (.mv (.k .nilp)), o 5 (.mv (.k (.bool false)))]) .ret) .skip)) (.seq (.reg [o 23 (.mv (.t 0)), o 24 (.mv (.t 0)), o 25 (.mkslice [.int .u16 (.ofNat 0)] 2 (.t 24) (.t 24)), o 26 (.build [.int .i64 (.ofNat 0), .nils] [(0, 1, .t 23), (1, 1, .t 25)]), o 27 (.box (.t 26)), o 6 (.mv (.t 27))]) (.seq (.seq (.reg [o 28 (.mv (.t 1)), o 29 (.len (.t 28)), o 30 (.mv (.k (.int .i64 (.ofNat 0))))]) (.block 0 (.loop (.seq (.reg [o 31 (.bin .lss (.t 30) (.t 29))]) (.seq (.cond (.t 31) .skip (.exit 0)) (.seq (.block 1 (.seq (.reg [o 32 (.iaddr 2 (.t 28) (.t 30)), o 33 (.load (some 2) (.t 32)), o 8 (.alloc [.int .i64 (.ofNat 0), .int .i64 (.ofNat 0)]), .mk none (.store 2 (.t 8) (.t 33)) none]) (.seq (.seq (.reg [o 34 (.faddr 0 (.t 8)), o 35 (.load none (.t 34)), o 36 (.faddr 1 (.t 8)), o 37 (.load none (.t 36)), o 38 (.mn [.t 35, .t 37]), o 39 (.bin .lss (.t 38) (.k (.int .i64 (.ofNat 0)))), o 40 (.mv (.t 39)), og 41 (.faddr 0 (.t 8)) 40 false, og 42 (.load none (.t 41)) 40 false, og 43 (.faddr 1 (.t 8)) 40 false, og 44 (.load none (.t 43)) 40 false, og 45 (.mx [.t 42, .t 44]) 40 false, og 46 (.mv (.t 0)) 40 false, og 47 (.bin .geq (.t 45) (.t 46)) 40 false, o 48 (.pick (.t 40) (.k (.bool true)) (.t 47)), o 49 (.mv (.t 48)), og 50 (.faddr 0 (.t 8)) 49 false, og 51 (.load none (.t 50)) 49 false, og 52 (.faddr 1 (.t 8)) 49 false, og 53 (.load none (.t 52)) 49 false, og 54 (.bin .eql (.t 51) (.t 53)) 49 false, o 55 (.pick (.t 49) (.k (.bool true)) (.t 54))]) (.cond (.t 55) (.seq (.reg [o 4 (.mv (.k .nilp)), o 5 (.mv (.k (.bool false)))]) .ret) .skip)) (.seq (.regd [o 56 (.mv (.t 6)), o 57 (.nilc (.t 56)), o 58 (.faddr 1 (.t 57)), o 59 (.load none (.t 58)), o 60 (.faddr 0 (.t 8)), o 61 (.load none (.t 60)), o 62 (.iaddr 1 (.t 59) (.t 61)), o 63 (.load none (.t 62)), o 64 (.faddr 1 (.t 8)), o 65 (.load none (.t 64)), o 66 (.bin .shl (.k (.int .u16 (.ofNat 1))) (.t 65)), o 67 (.bin .or (.t 63) (.t 66)), o 68 (.iaddr 1 (.t 59) (.t 61)), .mk none (.store 1 (.t 68) (.t 67)) none] [] []) (.regd [o 69 (.mv (.t 6)), o 70 (.nilc (.t 69)), o 71 (.faddr 1 (.t 70)), o 72 (.load none (.t 71)), o 73 (.faddr 1 (.t 8)), o 74 (.load none (.t 73)), o 75 (.iaddr 1 (.t 72) (.t 74)), o 76 (.load none (.t 75)), o 77 (.faddr 0 (.t 8)), o 78 (.load none (.t 77)), o 79 (.bin .shl (.k (.int .u16 (.ofNat 1))) (.t 78)), o 80 (.bin .or (.t 76) (.t 79)), o 81 (.iaddr 1 (.t 72) (.t 74)), .mk none (.store 1 (.t 81) (.t 80)) none] [] []))))) (.reg [o 82 (.bin .add (.t 30) (.k (.int .i64 (.ofNat 1)))), o 30 (.mv (.t 82))]))))))) (.seq (.reg [o 9 (.mv (.k (.int .u16 (.ofNat 1))))]) (.seq (.seq (.reg [o 83 (.mv (.t 0)), o 84 (.mv (.k (.int .i64 (.ofNat 0))))]) (.block 2 (.loop (.seq (.reg [o 85 (.bin .lss (.t 84) (.t 83))]) (.seq (.cond (.t 85) .skip (.exit 2)) (.seq (.block 3 (.seq (.reg [o 86 (.mv (.t 6)), o 87 (.nilc (.t 86)), o 88 (.faddr 1 (.t 87)), o 89 (.load none (.t 88)), o 90 (.len (.t 89)), o 91 (.mv (.k (.int .i64 (.ofNat 0))))]) (.block 4 (.loop (.seq (.reg [o 92 (.bin .lss (.t 91) (.t 90))]) (.seq (.cond (.t 92) .skip (.exit 4)) (.seq (.block 5 (.seq (.reg [o 93 (.mv (.t 91)), o 94 (.iaddr 1 (.t 89) (.t 91)), o 95 (.load none (.t 94)), o 10 (.mv (.t 93)), o 11 (.mv (.t 95))]) (.seq (.reg [o 96 (.mv (.t 9)), o 97 (.mv (.t 10)), o 98 (.call (.k (.fn 64 [])) [.t 96, .t 97])]) (.cond (.t 98) (.reg [o 99 (.mv (.t 9)), o 100 (.mv (.t 11)), o 101 (.bin .or (.t 99) (.t 100)), o 9 (.mv (.t 101))]) .skip)))) (.reg [o 102 (.bin .add (.t 91) (.k (.int .i64 (.ofNat 1)))), o 91 (.mv (.t 102))])))))))) (.reg [o 103 (.bin .add (.t 84) (.k (.int .i64 (.ofNat 1)))), o 84 (.mv (.t 103))]))))))) (.seq (.reg [o 104 (.mv (.t 6)), o 105 (.mv (.t 9)), o 106 (.call (.k (.fn 67 [])) [.t 105]), o 107 (.mv (.t 0)), o 108 (.bin .eql (.t 106) (.t 107)), o 4 (.mv (.t 104)), o 5 (.mv (.t 108))]) .ret))))))) 109 2 [.t 4, .t 5]
theorem l46 : compFunc Try.prog 46 = some L46 := by kernel_rfl
def L47 : XFunc := .mk (.seq (.reg [o 4 (.mv (.k .nils))]) (.seq (.reg [o 15 .mkmap, o 16 (.mv (.t 1)), o 17 (.bin .shl (.k (.int .u16 (.ofNat 1))) (.t 16)), .mk none (.upd (.mk false [.i .u16]) (.t 15) (.t 17) (.k .nils)) none, o 18 (.mv (.t 15)), o 5 (.alloc [.nilm]), .mk none (.store 1 (.t 5) (.t 18)) none]) (.block 0 (.loop (.block 1 (.seq (.seq (.regd [o 20 (.load none (.t 5)), o 21 (.mv (.t 0)), o 22 (.nilc (.t 21)), o 23 (.faddr 0 (.t 22)), o 24 (.load none (.t 23)), o 25 (.bin .shl (.k (.int .u16 (.ofNat 1))) (.t 24)), o 26 (.bin .sub (.t 25) (.k (.int .u16 (.ofNat 1)))), o 27 (.look (.mk false [.i .u16]) .nils (.t 20) (.t 26) true), o 19 (.mv (.t 27)), o 28 (.ext (.t 19) 0), o 29 (.ext (.t 19) 1), o 6 (.mv (.t 28)), o 7 (.mv (.t 29))] [] []) (.seq (.reg [o 30 (.mv (.t 7))]) (.cond (.t 30) (.seq (.reg [o 31 (.mv (.t 6)), o 4 (.mv (.t 31))]) .ret) .skip))) (.seq (.reg [o 32 .mkmap, o 8 (.alloc [.nilm]), .mk none (.store 1 (.t 8) (.t 32)) none]) (.seq (.seq (.reg [o 33 (.load none (.t 5)), o 34 (.call (.k (.fn 69 [])) [.t 33]), o 35 (.call (.k (.fn 68 [])) [.t 34]), o 36 (.len (.t 35)), o 37 (.mv (.k (.int .i64 (.ofNat 0))))]) (.block 2 (.loop (.seq (.reg [o 38 (.bin .lss (.t 37) (.t 36))]) (.seq (.cond (.t 38) .skip (.exit 2)) (.seq (.block 3 (.seq (.reg [o 39 (.iaddr 1 (.t 35) (.t 37)), o 40 (.load none (.t 39)), o 10 (.alloc [.int .u16 (.ofNat 0)]), .mk none (.store 1 (.t 10) (.t 40)) none]) (.reg [o 41 (.mv (.t 0)), o 42 (.load none (.t 10)), o 43 (.load none (.t 10)), o 44 (.mkfn 71 [.t 8, .t 5, .t 10]), o 45 (.call (.k (.fn 70 [])) [.t 41, .t 42, .t 43, .k (.int .i64 (.ofNat 0)), .k .nils, .t 44])]))) (.reg [o 46 (.bin .add (.t 37) (.k (.int .i64 (.ofNat 1)))), o 37 (.mv (.t 46))]))))))) (.seq (.reg [o 47 .mkmap, .mk none (.store 1 (.t 5) (.t 47)) none]) (.mrange [o 48 (.load none (.t 8))] 49 (.t 48) 4 50 51 5 52 [o 53 (.ext (.t 52) 0), o 54 (.ext (.t 52) 1), o 11 (.mv (.t 53)), o 12 (.mv (.t 54))] (.seq (.reg [o 13 (.mv (.k (.bool false)))]) (.seq (.mrange [o 55 (.load none (.t 8))] 56 (.t 55) 6 57 58 7 59 [o 60 (.ext (.t 59) 0), o 14 (.mv (.t 60))] (.reg [o 61 (.mv (.t 13)), o 62 (.mv (.t 61)), og 63 (.mv (.t 11)) 62 false, og 64 (.mv (.t 14)) 62 false, og 65 (.bin .neq (.t 63) (.t 64)) 62 false, og 66 (.mv (.t 65)) 62 false, og 67 (.mv (.t 11)) 66 true, og 68 (.mv (.t 14)) 66 true, og 69 (.bin .andNot (.t 67) (.t 68)) 66 true, og 70 (.bin .eql (.t 69) (.k (.int .u16 (.ofNat 0)))) 66 true, og 71 (.pick (.t 66) (.t 70) (.k (.bool false))) 62 false, o 72 (.pick (.t 62) (.k (.bool true)) (.t 71)), o 13 (.mv (.t 72))])) (.seq (.reg [o 73 (.mv (.t 13)), o 74 (.un .not (.t 73))]) (.cond (.t 74) (.reg [o 75 (.load none (.t 5)), o 76 (.mv (.t 11)), o 77 (.mv (.t 12)), .mk none (.upd (.mk false [.i .u16]) (.t 75) (.t 76) (.t 77)) none]) .skip)))))))))))))) 78 2 [.t 4]
theorem l47 : compFunc Try.prog 47 = some L47 := by kernel_rfl
def L49 : XFunc := .mk (.seq (.reg [o 4 (.mv (.k (.bool false)))]) (.seq (.seq (.reg [o 5 (.mv (.k (.int .i64 (.ofNat 0))))]) (.block 0 (.loop (.seq (.seq (.reg [o 6 (.mv (.t 5)), o 7 (.mv (.t 0)), o 8 (.len (.t 7)), o 9 (.bin .lss (.t 6) (.t 8)), o 10 (.mv (.t 9)), og 11 (.mv (.t 5)) 10 true, og 12 (.mv (.t 1)) 10 true, og 13 (.len (.t 12)) 10 true, og 14 (.bin .lss (.t 11) (.t 13)) 10 true, o 15 (.pick (.t 10) (.t 14) (.k (.bool false)))]) (.cond (.t 15) .skip (.exit 0))) (.seq (.block 1 (.seq (.regd [o 18 (.mv (.t 0)), o 19 (.mv (.t 5)), o 20 (.iaddr 1 (.t 18) (.t 19)), o 21 (.load none (.t 20)), o 22 (.mv (.t 1)), o 23 (.mv (.t 5)), o 24 (.iaddr 1 (.t 22) (.t 23)), o 25 (.load none (.t 24)), o 26 (.bin .neq (.t 21) (.t 25))] [] []) (.cond (.t 26) (.seq (.regd [o 27 (.mv (.t 0)), o 28 (.mv (.t 5)), o 29 (.iaddr 1 (.t 27) (.t 28)), o 30 (.load none (.t 29)), o 31 (.mv (.t 1)), o 32 (.mv (.t 5)), o 33 (.iaddr 1 (.t 31) (.t 32)), o 34 (.load none (.t 33)), o 35 (.bin .lss (.t 30) (.t 34)), o 4 (.mv (.t 35))] [] []) .ret) .skip))) (.reg [o 16 (.mv (.t 5)), o 17 (.bin .add (.t 16) (.k (.int .i64 (.ofNat 1)))), o 5 (.mv (.t 17))])))))) (.seq (.reg [o 36 (.mv (.t 0)), o 37 (.len (.t 36)), o 38 (.mv (.t 1)), o 39 (.len (.t 38)), o 40 (.bin .lss (.t 37) (.t 39)), o 4 (.mv (.t 40))]) .ret))) 41 2 [.t 4]
theorem l49 : compFunc Try.prog 49 = some L49 := by kernel_rfl
def L50 : XFunc := .mk (.seq (.reg [o 6 (.mv (.k .nilp)), o 7 (.mv (.k (.bool false)))]) (.seq (.reg [o 11 (.mv (.t 0)), o 12 (.mv (.t 1)), o 13 (.call (.k (.fn 46 [])) [.t 11, .t 12]), o 10 (.mv (.t 13)), o 14 (.ext (.t 10) 0), o 15 (.ext (.t 10) 1), o 8 (.mv (.t 14)), o 9 (.mv (.t 15))]) (.seq (.reg [o 16 (.mv (.t 8)), o 17 (.mv (.t 9)), o 18 (.mv (.t 17)), og 19 (.mv (.t 2)) 18 true, og 20 (.bin .geq (.t 19) (.k (.int .i64 (.ofNat 0)))) 18 true, o 21 (.pick (.t 18) (.t 20) (.k (.bool false))), o 22 (.mv (.t 21)), og 23 (.mv (.t 2)) 22 true, og 24 (.mv (.t 0)) 22 true, og 25 (.bin .lss (.t 23) (.t 24)) 22 true, o 26 (.pick (.t 22) (.t 25) (.k (.bool false))), o 6 (.mv (.t 16)), o 7 (.mv (.t 26))]) .ret))) 27 3 [.t 6, .t 7]
theorem l50 : compFunc Try.prog 50 = some L50 := by kernel_rfl
def L51 : XFunc := .mk (.seq (.reg [o 6 (.mv (.k (.bool false)))]) (.seq (.reg [o 7 (.mv (.t 0)), o 8 (.mv (.t 1)), o 9 (.bin .geq (.t 7) (.t 8)), o 10 (.mv (.t 9)), og 11 (.mv (.t 0)) 10 true, og 12 (.mv (.t 2)) 10 true, og 13 (.bin .leq (.t 11) (.t 12)) 10 true, o 14 (.pick (.t 10) (.t 13) (.k (.bool false))), o 6 (.mv (.t 14))]) .ret)) 15 3 [.t 6]
theorem l51 : compFunc Try.prog 51 = some L51 := by kernel_rfl
def L52 : XFunc := .mk (.seq (.reg [o 2 (.mv (.k (.int .i64 (.ofNat 0))))]) (.seq (.seq (.reg [o 3 (.mv (.t 0)), o 4 (.bin .lss (.t 3) (.k (.int .i64 (.ofNat 4))))]) (.cond (.t 4) (.seq (.reg [o 5 (.mv (.t 0)), o 6 (.mv (.t 0)), o 7 (.bin .sub (.t 6) (.k (.int .i64 (.ofNat 1)))), o 8 (.bin .mul (.t 5) (.t 7)), o 9 (.bin .quo (.t 8) (.k (.int .i64 (.ofNat 2)))), o 2 (.mv (.t 9))]) .ret) .skip)) (.seq (.reg [o 10 (.mv (.t 0)), o 11 (.bin .mul (.k (.int .i64 (.ofNat 2))) (.t 10)), o 12 (.bin .sub (.t 11) (.k (.int .i64 (.ofNat 4)))), o 2 (.mv (.t 12))]) .ret))) 13 1 [.t 2]
theorem l52 : compFunc Try.prog 52 = some L52 := by kernel_rfl
def L53 : XFunc := .mk (.seq (.reg [o 5 (.box (.t 1)), o 8 (.mv (.k .nils))]) (.seq (.seq (.reg [o 14 (.load (some 6) (.t 5)), o 15 (.mv (.t 0)), o 16 (.call (.k (.fn 58 [])) [.t 14, .t 15])]) (.cond (.t 16) (.seq (.reg [o 17 (.bslice [.int .i64 (.ofNat 0), .int .i64 (.ofNat 0)] [] 0), o 8 (.mv (.t 17))]) .ret) .skip)) (.seq (.seq (.reg [o 18 (.mv (.t 2)), o 19 (.bin .eql (.t 18) (.k (.int .i64 (.ofNat 0)))), o 20 (.mv (.t 19)), og 21 (.mv (.t 3)) 20 false, og 22 (.load (some 6) (.t 5)) 20 false, og 23 (.look (.mk true [.i .u8, .i .u8, .i .u8, .i .u8, .i .u8, .i .u8]) (.int .i64 (.ofNat 0)) (.t 21) (.t 22) false) 20 false, og 24 (.mv (.t 2)) 20 false, og 25 (.bin .geq (.t 23) (.t 24)) 20 false, o 26 (.pick (.t 20) (.k (.bool true)) (.t 25))]) (.cond (.t 26) (.seq (.reg [o 8 (.mv (.k .nils))]) .ret) .skip)) (.seq (.seq (.reg [o 27 (.mv (.t 0)), o 28 (.mv (.k (.int .i64 (.ofNat 0))))]) (.block 0 (.loop (.seq (.reg [o 29 (.bin .lss (.t 28) (.t 27))]) (.seq (.cond (.t 29) .skip (.exit 0)) (.seq (.block 1 (.seq (.reg [o 30 (.mv (.t 28)), o 9 (.mv (.t 30))]) (.seq (.reg [o 31 (.mv (.t 9)), o 32 (.bin .add (.t 31) (.k (.int .i64 (.ofNat 1)))), o 10 (.mv (.t 32))]) (.block 2 (.loop (.seq (.seq (.reg [o 33 (.mv (.t 10)), o 34 (.mv (.t 0)), o 35 (.bin .lss (.t 33) (.t 34))]) (.cond (.t 35) .skip (.exit 2))) (.seq (.block 3 (.seq (.reg [o 38 (.mv (.t 9)), o 39 (.mv (.t 10)), o 40 (.build [.int .i64 (.ofNat 0), .int .i64 (.ofNat 0)] [(0, 1, .t 38), (1, 1, .t 39)]), o 11 (.alloc [.int .i64 (.ofNat 0), .int .i64 (.ofNat 0)]), .mk none (.store 2 (.t 11) (.t 40)) none]) (.seq (.reg [o 41 (.load (some 6) (.t 5)), o 42 (.load (some 2) (.t 11)), o 43 (.call (.k (.fn 59 [])) [.t 41, .t 42]), o 12 (.alloc [.int .u8 (.ofNat 0), .int .u8 (.ofNat 0), .int .u8 (.ofNat 0), .int .u8 (.ofNat 0), .int .u8 (.ofNat 0), .int .u8 (.ofNat 0)]), .mk none (.store 6 (.t 12) (.t 43)) none]) (.seq (.reg [o 44 (.load (some 6) (.t 12)), o 45 (.load (some 6) (.t 5)), o 46 (.eqf true (.mk true [.i .u8, .i .u8, .i .u8, .i .u8, .i .u8, .i .u8]) (.t 44) (.t 45))]) (.cond (.t 46) (.seq (.reg [o 47 (.mv (.t 0)), o 48 (.load (some 6) (.t 12)), o 49 (.mv (.t 2)), o 50 (.bin .sub (.t 49) (.k (.int .i64 (.ofNat 1)))), o 51 (.mv (.t 3)), o 52 (.call (.k (.fn 53 [])) [.t 47, .t 48, .t 50, .t 51]), o 13 (.mv (.t 52))]) (.seq (.reg [o 53 (.mv (.t 13)), o 54 (.eqn true .s (.t 53) (.k .nils))]) (.cond (.t 54) (.seq (.reg [o 55 (.load (some 2) (.t 11)), o 56 (.bslice [.int .i64 (.ofNat 0), .int .i64 (.ofNat 0)] [(0, 2, .t 55)] 1), o 57 (.mv (.t 13)), o 58 (.app 2 16 (.t 56) (.t 57)), o 8 (.mv (.t 58))]) .ret) .skip))) .skip))))) (.reg [o 36 (.mv (.t 10)), o 37 (.bin .add (.t 36) (.k (.int .i64 (.ofNat 1)))), o 10 (.mv (.t 37))])))))))) (.reg [o 59 (.bin .add (.t 28) (.k (.int .i64 (.ofNat 1)))), o 28 (.mv (.t 59))]))))))) (.seq (.reg [o 60 (.mv (.t 3)), o 61 (.load (some 6) (.t 5)), o 62 (.mv (.t 2)), .mk none (.upd (.mk true [.i .u8, .i .u8, .i .u8, .i .u8, .i .u8, .i .u8]) (.t 60) (.t 61) (.t 62)) none]) (.seq (.reg [o 8 (.mv (.k .nils))]) .ret)))))) 63 4 [.t 8]
theorem l53 : compFunc Try.prog 53 = some L53 := by kernel_rfl
def L54 : XFunc := .mk (.seq (.reg [o 2 (.alloc [.int .u8 (.ofNat 0), .int .u8 (.ofNat 0), .int .u8 (.ofNat 0), .int .u8 (.ofNat 0), .int .u8 (.ofNat 0), .int .u8 (.ofNat 0)])]) (.seq (.reg [o 3 (.alloc [.int .u8 (.ofNat 0), .int .u8 (.ofNat 0), .int .u8 (.ofNat 0), .int .u8 (.ofNat 0), .int .u8 (.ofNat 0), .int .u8 (.ofNat 0)])]) (.seq (.seq (.reg [o 5 (.mv (.t 0)), o 6 (.mv (.k (.int .i64 (.ofNat 0))))]) (.block 0 (.loop (.seq (.reg [o 7 (.bin .lss (.t 6) (.t 5))]) (.seq (.cond (.t 7) .skip (.exit 0)) (.seq (.block 1 (.seq (.reg [o 8 (.mv (.t 6)), o 4 (.mv (.t 8))]) (.reg [o 9 (.mv (.t 4)), o 10 (.mv (.t 4)), o 11 (.bin .shl (.k (.int .u8 (.ofNat 1))) (.t 10)), o 12 (.aaddr 6 1 (.t 3) (.t 9)), .mk none (.store 1 (.t 12) (.t 11)) none]))) (.reg [o 13 (.bin .add (.t 6) (.k (.int .i64 (.ofNat 1)))), o 6 (.mv (.t 13))]))))))) (.seq (.reg [o 14 (.load (some 6) (.t 3)), .mk none (.store 6 (.t 2) (.t 14)) none]) .ret)))) 15 1 [.c 2 (some 6)]
theorem l54 : compFunc Try.prog 54 = some L54 := by kernel_rfl
def L55 : XFunc := .mk (.seq (.reg [o 6 (.mv (.k (.bool false)))]) (.seq (.reg [o 7 (.mv (.t 0)), o 8 (.mv (.t 1)), o 9 (.bin .geq (.t 7) (.t 8)), o 10 (.mv (.t 9)), og 11 (.mv (.t 0)) 10 true, og 12 (.mv (.t 2)) 10 true, og 13 (.bin .leq (.t 11) (.t 12)) 10 true, o 14 (.pick (.t 10) (.t 13) (.k (.bool false))), o 6 (.mv (.t 14))]) .ret)) 15 3 [.t 6]
theorem l55 : compFunc Try.prog 55 = some L55 := by kernel_rfl
def L57 : XFunc := .mk (.seq (.reg [o 4 (.mv (.k (.int .i64 (.ofNat 0))))]) (.seq (.block 0 (.seq (.reg [o 8 (.mv (.t 1)), o 9 (.len (.t 8)), o 10 (.bin .gtr (.t 9) (.k (.int .i64 (.ofNat 60)))), o 7 (.mv (.t 10))]) (.cond (.t 7) (.seq (.reg [o 4 (.mv (.k (.int .i64 (.ofNat 3))))]) .ret) (.seq (.reg [o 12 (.mv (.t 0)), o 13 (.bin .lss (.t 12) (.k (.int .i64 (.ofNat 1)))), o 14 (.mv (.t 13)), og 15 (.mv (.t 0)) 14 false, og 16 (.bin .gtr (.t 15) (.k (.int .i64 (.ofNat 6)))) 14 false, o 17 (.pick (.t 14) (.k (.bool true)) (.t 16)), o 11 (.mv (.t 17))]) (.cond (.t 11) (.seq (.reg [o 4 (.mv (.k (.int .i64 (.ofNat 1))))]) .ret) .skip))))) (.seq (.seq (.reg [o 18 (.mv (.t 1)), o 19 (.len (.t 18)), o 20 (.mv (.k (.int .i64 (.ofNat 0))))]) (.block 1 (.loop (.seq (.reg [o 21 (.bin .lss (.t 20) (.t 19))]) (.seq (.cond (.t 21) .skip (.exit 1)) (.seq (.block 2 (.seq (.reg [o 22 (.iaddr 2 (.t 18) (.t 20)), o 23 (.load (some 2) (.t 22)), o 6 (.alloc [.int .i64 (.ofNat 0), .int .i64 (.ofNat 0)]), .mk none (.store 2 (.t 6) (.t 23)) none]) (.seq (.reg [o 24 (.faddr 0 (.t 6)), o 25 (.load none (.t 24)), o 26 (.faddr 1 (.t 6)), o 27 (.load none (.t 26)), o 28 (.mn [.t 25, .t 27]), o 29 (.bin .lss (.t 28) (.k (.int .i64 (.ofNat 0)))), o 30 (.mv (.t 29)), og 31 (.faddr 0 (.t 6)) 30 false, og 32 (.load none (.t 31)) 30 false, og 33 (.faddr 1 (.t 6)) 30 false, og 34 (.load none (.t 33)) 30 false, og 35 (.mx [.t 32, .t 34]) 30 false, og 36 (.mv (.t 0)) 30 false, og 37 (.bin .geq (.t 35) (.t 36)) 30 false, o 38 (.pick (.t 30) (.k (.bool true)) (.t 37)), o 39 (.mv (.t 38)), og 40 (.faddr 0 (.t 6)) 39 false, og 41 (.load none (.t 40)) 39 false, og 42 (.faddr 1 (.t 6)) 39 false, og 43 (.load none (.t 42)) 39 false, og 44 (.bin .eql (.t 41) (.t 43)) 39 false, o 45 (.pick (.t 39) (.k (.bool true)) (.t 44))]) (.cond (.t 45) (.seq (.reg [o 4 (.mv (.k (.int .i64 (.ofNat 1))))]) .ret) .skip)))) (.reg [o 46 (.bin .add (.t 20) (.k (.int .i64 (.ofNat 1)))), o 20 (.mv (.t 46))]))))))) (.seq (.reg [o 4 (.mv (.k (.int .i64 (.ofNat 0))))]) .ret)))) 47 2 [.t 4]
theorem l57 : compFunc Try.prog 57 = some L57 := by kernel_rfl
def L58 : XFunc := .mk (.seq (.reg [o 2 (.box (.t 0)), o 3 (.box (.t 1)), o 4 (.mv (.k (.bool false)))]) (.seq (.reg [o 5 (.load none (.t 3)), o 6 (.acut 6 1 (.t 2) none (some (.t 5)) none), o 7 (.mkfn 76 [.t 3]), o 8 (.call (.k (.fn 75 [])) [.t 6, .t 7]), o 9 (.un .not (.t 8)), o 4 (.mv (.t 9))]) .ret)) 10 2 [.t 4]
theorem l58 : compFunc Try.prog 58 = some L58 := by kernel_rfl
def L59 : XFunc := .mk (.seq (.reg [o 2 (.box (.t 0)), o 3 (.box (.t 1)), o 4 (.alloc [.int .u8 (.ofNat 0), .int .u8 (.ofNat 0), .int .u8 (.ofNat 0), .int .u8 (.ofNat 0), .int .u8 (.ofNat 0), .int .u8 (.ofNat 0)])]) (.seq (.regd [o 6 (.faddr 0 (.t 3)), o 7 (.load none (.t 6)), o 8 (.aaddr 6 1 (.t 2) (.t 7)), o 9 (.load none (.t 8)), o 10 (.faddr 1 (.t 3)), o 11 (.load none (.t 10)), o 12 (.aaddr 6 1 (.t 2) (.t 11)), o 13 (.load none (.t 12)), o 14 (.bin .or (.t 9) (.t 13)), o 5 (.mv (.t 14))] [] []) (.seq (.regd [o 15 (.faddr 0 (.t 3)), o 16 (.load none (.t 15)), o 17 (.faddr 1 (.t 3)), o 18 (.load none (.t 17)), o 19 (.mv (.t 5)), o 20 (.mv (.t 5)), o 21 (.aaddr 6 1 (.t 2) (.t 16)), .mk none (.store 1 (.t 21) (.t 19)) none, o 22 (.aaddr 6 1 (.t 2) (.t 18)), .mk none (.store 1 (.t 22) (.t 20)) none] [(3, [7], [])] []) (.seq (.reg [o 23 (.load (some 6) (.t 2)), .mk none (.store 6 (.t 4) (.t 23)) none]) .ret)))) 24 2 [.c 4 (some 6)]
theorem l59 : compFunc Try.prog 59 = some L59 := by kernel_rfl
def L64 : XFunc := .mk (.seq (.reg [o 4 (.mv (.k (.bool false)))]) (.seq (.reg [o 5 (.mv (.t 0)), o 6 (.mv (.t 1)), o 7 (.bin .shr (.t 5) (.t 6)), o 8 (.bin .and (.t 7) (.k (.int .u16 (.ofNat 1)))), o 9 (.bin .eql (.t 8) (.k (.int .u16 (.ofNat 1)))), o 4 (.mv (.t 9))]) .ret)) 10 2 [.t 4]
theorem l64 : compFunc Try.prog 64 = some L64 := by kernel_rfl
def L65 : XFunc := .mk (.seq (.reg [o 4 (.mv (.k (.int .i64 (.ofNat 0))))]) (.seq (.reg [o 5 (.mv (.k (.int .i64 (.ofNat 0))))]) (.seq (.seq (.reg [o 6 (.mv (.k (.int .i64 (.ofNat 0))))]) (.block 0 (.loop (.seq (.seq (.reg [o 7 (.mv (.t 6)), o 8 (.mv (.t 0)), o 9 (.len (.t 8)), o 10 (.bin .lss (.t 7) (.t 9))]) (.cond (.t 10) .skip (.exit 0))) (.seq (.block 1 (.seq (.reg [o 13 (.mv (.t 1)), o 14 (.mv (.t 6)), o 15 (.bin .shr (.t 13) (.t 14)), o 16 (.bin .and (.t 15) (.k (.int .i64 (.ofNat 1)))), o 17 (.bin .eql (.t 16) (.k (.int .i64 (.ofNat 1))))]) (.cond (.t 17) (.reg [o 18 (.mv (.t 5)), o 19 (.mv (.t 0)), o 20 (.mv (.t 6)), o 21 (.iaddr 1 (.t 19) (.t 20)), o 22 (.load none (.t 21)), o 23 (.bin .or (.t 18) (.t 22)), o 5 (.mv (.t 23))]) .skip))) (.reg [o 11 (.mv (.t 6)), o 12 (.bin .add (.t 11) (.k (.int .i64 (.ofNat 1)))), o 6 (.mv (.t 12))])))))) (.seq (.reg [o 24 (.mv (.t 5)), o 4 (.mv (.t 24))]) .ret)))) 25 2 [.t 4]
theorem l65 : compFunc Try.prog 65 = some L65 := by kernel_rfl
def L66 : XFunc := .mk (.seq (.reg [o 6 (.mv (.k (.bool false)))]) (.seq (.reg [o 7 (.mv (.t 0)), o 8 (.mv (.t 1)), o 9 (.bin .geq (.t 7) (.t 8)), o 10 (.mv (.t 9)), og 11 (.mv (.t 0)) 10 true, og 12 (.mv (.t 2)) 10 true, og 13 (.bin .leq (.t 11) (.t 12)) 10 true, o 14 (.pick (.t 10) (.t 13) (.k (.bool false))), o 6 (.mv (.t 14))]) .ret)) 15 3 [.t 6]
theorem l66 : compFunc Try.prog 66 = some L66 := by kernel_rfl
def L67 : XFunc := .mk (.seq (.reg [o 2 (.mv (.k (.int .i64 (.ofNat 0))))]) (.seq (.regd [o 3 (.mv (.t 0)), o 4 (.bin .shr (.t 3) (.k (.int .u64 (.ofNat 8)))), o 5 (.sidx (.k (.str [UInt8.ofNat 0, UInt8.ofNat 1, UInt8.ofNat 1, UInt8.ofNat 2, UInt8.ofNat 1, UInt8.ofNat 2, UInt8.ofNat 2, UInt8.ofNat 3, UInt8.ofNat 1, UInt8.ofNat 2, UInt8.ofNat 2, UInt8.ofNat 3, UInt8.ofNat 2, UInt8.ofNat 3, UInt8.ofNat 3, UInt8.ofNat 4, UInt8.ofNat 1, UInt8.ofNat 2, UInt8.ofNat 2, UInt8.ofNat 3, UInt8.ofNat 2, UInt8.ofNat 3, UInt8.ofNat 3, UInt8.ofNat 4, UInt8.ofNat 2, UInt8.ofNat 3, UInt8.ofNat 3, UInt8.ofNat 4, UInt8.ofNat 3, UInt8.ofNat 4, UInt8.ofNat 4, UInt8.ofNat 5, UInt8.ofNat 1, UInt8.ofNat 2, UInt8.ofNat 2, UInt8.ofNat 3, UInt8.ofNat 2, UInt8.ofNat 3, UInt8.ofNat 3, UInt8.ofNat 4, UInt8.ofNat 2, UInt8.ofNat 3, UInt8.ofNat 3, UInt8.ofNat 4, UInt8.ofNat 3, UInt8.ofNat 4, UInt8.ofNat 4, UInt8.ofNat 5, UInt8.ofNat 2, UInt8.ofNat 3, UInt8.ofNat 3, UInt8.ofNat 4, UInt8.ofNat 3, UInt8.ofNat 4, UInt8.ofNat 4, UInt8.ofNat 5, UInt8.ofNat 3, UInt8.ofNat 4, UInt8.ofNat 4, UInt8.ofNat 5, UInt8.ofNat 4, UInt8.ofNat 5, UInt8.ofNat 5, UInt8.ofNat 6, UInt8.ofNat 1, UInt8.ofNat 2, UInt8.ofNat 2, UInt8.ofNat 3, UInt8.ofNat 2, UInt8.ofNat 3, UInt8.ofNat 3, UInt8.ofNat 4, UInt8.ofNat 2, UInt8.ofNat 3, UInt8.ofNat 3, UInt8.ofNat 4, UInt8.ofNat 3, UInt8.ofNat 4, UInt8.ofNat 4, UInt8.ofNat 5, UInt8.ofNat 2, UInt8.ofNat 3, UInt8.ofNat 3, UInt8.ofNat 4, UInt8.ofNat 3, UInt8.ofNat 4, UInt8.ofNat 4, UInt8.ofNat 5, UInt8.ofNat 3, UInt8.ofNat 4, UInt8.ofNat 4, UInt8.ofNat 5, UInt8.ofNat 4, UInt8.ofNat 5, UInt8.ofNat 5, UInt8.ofNat 6, UInt8.ofNat 2, UInt8.ofNat 3, UInt8.ofNat 3, UInt8.ofNat 4, UInt8.ofNat 3, UInt8.ofNat 4, UInt8.ofNat 4, UInt8.ofNat 5, UInt8.ofNat 3, UInt8.ofNat 4, UInt8.ofNat 4, UInt8.ofNat 5, UInt8.ofNat 4, UInt8.ofNat 5, UInt8.ofNat 5, UInt8.ofNat 6, UInt8.ofNat 3, UInt8.ofNat 4, UInt8.ofNat 4, UInt8.ofNat 5, UInt8.ofNat 4, UInt8.ofNat 5, UInt8.ofNat 5, UInt8.ofNat 6, UInt8.ofNat 4, UInt8.ofNat 5, UInt8.ofNat 5, UInt8.ofNat 6, UInt8.ofNat 5, UInt8.ofNat 6, UInt8.ofNat 6, UInt8.ofNat 7, UInt8.ofNat 1, UInt8.ofNat 2, UInt8.ofNat 2, UInt8.ofNat 3, UInt8.ofNat 2, UInt8.ofNat 3, UInt8.ofNat 3, UInt8.ofNat 4, UInt8.ofNat 2, UInt8.ofNat 3, UInt8.ofNat 3, UInt8.ofNat 4, UInt8.ofNat 3, UInt8.ofNat 4, UInt8.ofNat 4, UInt8.ofNat 5, UInt8.ofNat 2, UInt8.ofNat 3, UInt8.ofNat 3, UInt8.ofNat 4, UInt8.ofNat 3, UInt8.ofNat 4, UInt8.ofNat 4, UInt8.ofNat 5, UInt8.ofNat 3, UInt8.ofNat 4, UInt8.ofNat 4, UInt8.ofNat 5, UInt8.ofNat 4, UInt8.ofNat 5, UInt8.ofNat 5, UInt8.ofNat 6, UInt8.ofNat 2, UInt8.ofNat 3, UInt8.ofNat 3, UInt8.ofNat 4, UInt8.ofNat 3, UInt8.ofNat 4, UInt8.ofNat 4, UInt8.ofNat 5, UInt8.ofNat 3, UInt8.ofNat 4, UInt8.ofNat 4, UInt8.ofNat 5, UInt8.ofNat 4, UInt8.ofNat 5, UInt8.ofNat 5, UInt8.ofNat 6, UInt8.ofNat 3, UInt8.ofNat 4, UInt8.ofNat 4, UInt8.ofNat 5, UInt8.ofNat 4, UInt8.ofNat 5, UInt8.ofNat 5, UInt8.ofNat 6, UInt8.ofNat 4, UInt8.ofNat 5, UInt8.ofNat 5, UInt8.ofNat 6, UInt8.ofNat 5, UInt8.ofNat 6, UInt8.ofNat 6, UInt8.ofNat 7, UInt8.ofNat 2, UInt8.ofNat 3, UInt8.ofNat 3, UInt8.ofNat 4, UInt8.ofNat 3, UInt8.ofNat 4, UInt8.ofNat 4, UInt8.ofNat 5, UInt8.ofNat 3, UInt8.ofNat 4, UInt8.ofNat 4, UInt8.ofNat 5, UInt8.ofNat 4, UInt8.ofNat 5, UInt8.ofNat 5, UInt8.ofNat 6, UInt8.ofNat 3, UInt8.ofNat 4, UInt8.ofNat 4, UInt8.ofNat 5, UInt8.ofNat 4, UInt8.ofNat 5, UInt8.ofNat 5, UInt8.ofNat 6, UInt8.ofNat 4, UInt8.ofNat 5, UInt8.ofNat 5, UInt8.ofNat 6, UInt8.ofNat 5, UInt8.ofNat 6, UInt8.ofNat 6, UInt8.ofNat 7, UInt8.ofNat 3, UInt8.ofNat 4, UInt8.ofNat 4, UInt8.ofNat 5, UInt8.ofNat 4, UInt8.ofNat 5, UInt8.ofNat 5, UInt8.ofNat 6, UInt8.ofNat 4, UInt8.ofNat 5, UInt8.ofNat 5, UInt8.ofNat 6, UInt8.ofNat 5, UInt8.ofNat 6, UInt8.ofNat 6, UInt8.ofNat 7, UInt8.ofNat 4, UInt8.ofNat 5, UInt8.ofNat 5, UInt8.ofNat 6, UInt8.ofNat 5, UInt8.ofNat 6, UInt8.ofNat 6, UInt8.ofNat 7, UInt8.ofNat 5, UInt8.ofNat 6, UInt8.ofNat 6, UInt8.ofNat 7, UInt8.ofNat 6, UInt8.ofNat 7, UInt8.ofNat 7, UInt8.ofNat 8])) (.t 4)), o 6 (.mv (.t 0)), o 7 (.bin .and (.t 6) (.k (.int .u16 (.ofNat 255)))), o 8 (.sidx (.k (.str [UInt8.ofNat 0, UInt8.ofNat 1, UInt8.ofNat 1, UInt8.ofNat 2, UInt8.ofNat 1, UInt8.ofNat 2, UInt8.ofNat 2, UInt8.ofNat 3, UInt8.ofNat 1, UInt8.ofNat 2, UInt8.ofNat 2, UInt8.ofNat 3, UInt8.ofNat 2, UInt8.ofNat 3, UInt8.ofNat 3, UInt8.ofNat 4, UInt8.ofNat 1, UInt8.ofNat 2, UInt8.ofNat 2, UInt8.ofNat 3, UInt8.ofNat 2, UInt8.ofNat 3, UInt8.ofNat 3, UInt8.ofNat 4, UInt8.ofNat 2, UInt8.ofNat 3, UInt8.ofNat 3, UInt8.ofNat 4, UInt8.ofNat 3, UInt8.ofNat 4, UInt8.ofNat 4, UInt8.ofNat 5, UInt8.ofNat 1, UInt8.ofNat 2, UInt8.ofNat 2, UInt8.ofNat 3, UInt8.ofNat 2, UInt8.ofNat 3, UInt8.ofNat 3, UInt8.ofNat 4, UInt8.ofNat 2, UInt8.ofNat 3, UInt8.ofNat 3, UInt8.ofNat 4, UInt8.ofNat 3, UInt8.ofNat 4, UInt8.ofNat 4, UInt8.ofNat 5, UInt8.ofNat 2, UInt8.ofNat 3, UInt8.ofNat 3, UInt8.ofNat 4, UInt8.ofNat 3, UInt8.ofNat 4, UInt8.ofNat 4, UInt8.ofNat 5, UInt8.ofNat 3, UInt8.ofNat 4, UInt8.ofNat 4, UInt8.ofNat 5, UInt8.ofNat 4, UInt8.ofNat 5, UInt8.ofNat 5, UInt8.ofNat 6, UInt8.ofNat 1, UInt8.ofNat 2, UInt8.ofNat 2, UInt8.ofNat 3, UInt8.ofNat 2, UInt8.ofNat 3, UInt8.ofNat 3, UInt8.ofNat 4, UInt8.ofNat 2, UInt8.ofNat 3, UInt8.ofNat 3, UInt8.ofNat 4, UInt8.ofNat 3, UInt8.ofNat 4, UInt8.ofNat 4, UInt8.ofNat 5, UInt8.ofNat 2, UInt8.ofNat 3, UInt8.ofNat 3, UInt8.ofNat 4, UInt8.ofNat 3, UInt8.ofNat 4, UInt8.ofNat 4, UInt8.ofNat 5, UInt8.ofNat 3, UInt8.ofNat 4, UInt8.ofNat 4, UInt8.ofNat 5, UInt8.ofNat 4, UInt8.ofNat 5, UInt8.ofNat 5, UInt8.ofNat 6, UInt8.ofNat 2, UInt8.ofNat 3, UInt8.ofNat 3, UInt8.ofNat 4, UInt8.ofNat 3, UInt8.ofNat 4, UInt8.ofNat 4, UInt8.ofNat 5, UInt8.ofNat 3, UInt8.ofNat 4, UInt8.ofNat 4, UInt8.ofNat 5, UInt8.ofNat 4, UInt8.ofNat 5, UInt8.ofNat 5, UInt8.ofNat 6, UInt8.ofNat 3, UInt8.ofNat 4, UInt8.ofNat 4, UInt8.ofNat 5, UInt8.ofNat 4, UInt8.ofNat 5, UInt8.ofNat 5, UInt8.ofNat 6, UInt8.ofNat 4, UInt8.ofNat 5, UInt8.ofNat 5, UInt8.ofNat 6, UInt8.ofNat 5, UInt8.ofNat 6, UInt8.ofNat 6, UInt8.ofNat 7, UInt8.ofNat 1, UInt8.ofNat 2, UInt8.ofNat 2, UInt8.ofNat 3, UInt8.ofNat 2, UInt8.ofNat 3, UInt8.ofNat 3, UInt8.ofNat 4, UInt8.ofNat 2, UInt8.ofNat 3, UInt8.ofNat 3, UInt8.ofNat 4, UInt8.ofNat 3, UInt8.ofNat 4, UInt8.ofNat 4, UInt8.ofNat 5, UInt8.ofNat 2, UInt8.ofNat 3, UInt8.ofNat 3, UInt8.ofNat 4, UInt8.ofNat 3, UInt8.ofNat 4, UInt8.ofNat 4, UInt8.ofNat 5, UInt8.ofNat 3, UInt8.ofNat 4, UInt8.ofNat 4, UInt8.ofNat 5, UInt8.ofNat 4, UInt8.ofNat 5, UInt8.ofNat 5, UInt8.ofNat 6, UInt8.ofNat 2, UInt8.ofNat 3, UInt8.ofNat 3, UInt8.ofNat 4, UInt8.ofNat 3, UInt8.ofNat 4, UInt8.ofNat 4, UInt8.ofNat 5, UInt8.ofNat 3, UInt8.ofNat 4, UInt8.ofNat 4, UInt8.ofNat 5, UInt8.ofNat 4, UInt8.ofNat 5, UInt8.ofNat 5, UInt8.ofNat 6, UInt8.ofNat 3, UInt8.ofNat 4, UInt8.ofNat 4, UInt8.ofNat 5, UInt8.ofNat 4, UInt8.ofNat 5, UInt8.ofNat 5, UInt8.ofNat 6, UInt8.ofNat 4, UInt8.ofNat 5, UInt8.ofNat 5, UInt8.ofNat 6, UInt8.ofNat 5, UInt8.ofNat 6, UInt8.ofNat 6, UInt8.ofNat 7, UInt8.ofNat 2, UInt8.ofNat 3, UInt8.ofNat 3, UInt8.ofNat 4, UInt8.ofNat 3, UInt8.ofNat 4, UInt8.ofNat 4, UInt8.ofNat 5, UInt8.ofNat 3, UInt8.ofNat 4, UInt8.ofNat 4, UInt8.ofNat 5, UInt8.ofNat 4, UInt8.ofNat 5, UInt8.ofNat 5, UInt8.ofNat 6, UInt8.ofNat 3, UInt8.ofNat 4, UInt8.ofNat 4, UInt8.ofNat 5, UInt8.ofNat 4, UInt8.ofNat 5, UInt8.ofNat 5, UInt8.ofNat 6, UInt8.ofNat 4, UInt8.ofNat 5, UInt8.ofNat 5, UInt8.ofNat 6, UInt8.ofNat 5, UInt8.ofNat 6, UInt8.ofNat 6, UInt8.ofNat 7, UInt8.ofNat 3, UInt8.ofNat 4, UInt8.ofNat 4, UInt8.ofNat 5, UInt8.ofNat 4, UInt8.ofNat 5, UInt8.ofNat 5, UInt8.ofNat 6, UInt8.ofNat 4, UInt8.ofNat 5, UInt8.ofNat 5, UInt8.ofNat 6, UInt8.ofNat 5, UInt8.ofNat 6, UInt8.ofNat 6, UInt8.ofNat 7, UInt8.ofNat 4, UInt8.ofNat 5, UInt8.ofNat 5, UInt8.ofNat 6, UInt8.ofNat 5, UInt8.ofNat 6, UInt8.ofNat 6, UInt8.ofNat 7, UInt8.ofNat 5, UInt8.ofNat 6, UInt8.ofNat 6, UInt8.ofNat 7, UInt8.ofNat 6, UInt8.ofNat 7, UInt8.ofNat 7, UInt8.ofNat 8])) (.t 7)), o 9 (.bin .add (.t 5) (.t 8)), o 10 (.conv .i64 (.t 9)), o 2 (.mv (.t 10))] [] []) .ret)) 11 1 [.t 2]
theorem l67 : compFunc Try.prog 67 = some L67 := by kernel_rfl
def L68 : XFunc := .mk (.seq (.reg [o 2 (.mv (.k .nils))]) (.seq (.reg [o 4 (.mv (.t 0)), o 5 (.call (.k (.fn 79 [])) [.t 4]), o 3 (.mv (.t 5))]) (.seq (.reg [o 6 (.mv (.t 3)), o 7 (.call (.k (.fn 80 [])) [.t 6])]) (.seq (.reg [o 8 (.mv (.t 3)), o 2 (.mv (.t 8))]) .ret)))) 9 1 [.t 2]
theorem l68 : compFunc Try.prog 68 = some L68 := by kernel_rfl
def L69 : XFunc := .mk (.seq (.reg [o 1 (.box (.t 0)), o 2 (.mv (.k .nilf))]) (.seq (.reg [o 3 (.mkfn 81 [.t 1]), o 2 (.mv (.t 3))]) .ret)) 4 1 [.t 2]
theorem l69 : compFunc Try.prog 69 = some L69 := by kernel_rfl
def L70 : XFunc := .mk (.seq (.block 0 (.loop (.seq (.seq (.reg [o 14 (.mv (.t 3)), o 15 (.mv (.t 0)), o 16 (.nilc (.t 15)), o 17 (.faddr 0 (.t 16)), o 18 (.load none (.t 17)), o 19 (.bin .lss (.t 14) (.t 18)), o 20 (.mv (.t 19)), og 21 (.mv (.t 1)) 20 true, og 22 (.mv (.t 3)) 20 true, og 23 (.call (.k (.fn 64 [])) [.t 21, .t 22]) 20 true, og 24 (.un .not (.t 23)) 20 true, o 25 (.pick (.t 20) (.t 24) (.k (.bool false)))]) (.cond (.t 25) .skip (.exit 0))) (.block 1 (.reg [o 26 (.mv (.t 3)), o 27 (.bin .add (.t 26) (.k (.int .i64 (.ofNat 1)))), o 3 (.mv (.t 27))]))))) (.seq (.seq (.reg [o 28 (.mv (.t 3)), o 29 (.mv (.t 0)), o 30 (.nilc (.t 29)), o 31 (.faddr 0 (.t 30)), o 32 (.load none (.t 31)), o 33 (.bin .eql (.t 28) (.t 32))]) (.cond (.t 33) (.seq (.reg [o 34 (.mv (.t 5)), o 35 (.mv (.t 2)), o 36 (.mv (.t 4)), o 37 (.call (.t 34) [.t 35, .t 36])]) .ret) .skip)) (.seq (.reg [o 12 (.mv (.k (.bool true)))]) (.seq (.seq (.reg [o 38 (.mv (.t 0)), o 39 (.nilc (.t 38)), o 40 (.faddr 0 (.t 39)), o 41 (.load none (.t 40)), o 42 (.mv (.k (.int .i64 (.ofNat 0))))]) (.block 2 (.loop (.seq (.reg [o 43 (.bin .lss (.t 42) (.t 41))]) (.seq (.cond (.t 43) .skip (.exit 2)) (.seq (.block 3 (.seq (.reg [o 44 (.mv (.t 42)), o 13 (.mv (.t 44))]) (.seq (.reg [o 45 (.mv (.t 0)), o 46 (.nilc (.t 45)), o 47 (.faddr 1 (.t 46)), o 48 (.load none (.t 47)), o 49 (.mv (.t 3)), o 50 (.iaddr 1 (.t 48) (.t 49)), o 51 (.load none (.t 50)), o 52 (.mv (.t 2)), o 53 (.bin .andNot (.t 51) (.t 52)), o 54 (.mv (.t 13)), o 55 (.call (.k (.fn 64 [])) [.t 53, .t 54])]) (.cond (.t 55) (.seq (.reg [o 12 (.mv (.k (.bool false)))]) (.regd [o 56 (.mv (.t 0)), o 57 (.mv (.t 1)), o 58 (.mv (.t 2)), o 59 (.mv (.t 13)), o 60 (.bin .shl (.k (.int .u16 (.ofNat 1))) (.t 59)), o 61 (.bin .or (.t 58) (.t 60)), o 62 (.mv (.t 3)), o 63 (.bin .add (.t 62) (.k (.int .i64 (.ofNat 1)))), o 64 (.mv (.t 4)), o 65 (.call (.k (.fn 82 [])) [.t 64]), o 66 (.mv (.t 3)), o 67 (.mv (.t 13)), o 68 (.build [.int .i64 (.ofNat 0), .int .i64 (.ofNat 0)] [(0, 1, .t 66), (1, 1, .t 67)]), o 69 (.bslice [.int .i64 (.ofNat 0), .int .i64 (.ofNat 0)] [(0, 2, .t 68)] 1), o 70 (.app 2 16 (.t 65) (.t 69)), o 71 (.mv (.t 5)), o 72 (.call (.k (.fn 70 [])) [.t 56, .t 57, .t 61, .t 63, .t 70, .t 71])] [] [13])) .skip)))) (.reg [o 73 (.bin .add (.t 42) (.k (.int .i64 (.ofNat 1)))), o 42 (.mv (.t 73))]))))))) (.seq (.reg [o 74 (.mv (.t 12))]) (.cond (.t 74) (.reg [o 75 (.mv (.t 0)), o 76 (.mv (.t 1)), o 77 (.mv (.t 2)), o 78 (.mv (.t 3)), o 79 (.bin .add (.t 78) (.k (.int .i64 (.ofNat 1)))), o 80 (.mv (.t 4)), o 81 (.mv (.t 5)), o 82 (.call (.k (.fn 70 [])) [.t 75, .t 76, .t 77, .t 79, .t 80, .t 81])]) .skip)))))) 83 6 []
theorem l70 : compFunc Try.prog 70 = some L70 := by kernel_rfl
def L71 : XFunc := .mk (.seq (.reg [o 10 (.load none (.t 2)), o 11 (.mv (.t 0)), o 12 (.look (.mk false [.i .u16]) .nils (.t 10) (.t 11) true), o 9 (.mv (.t 12)), o 13 (.ext (.t 9) 0), o 14 (.ext (.t 9) 1), o 7 (.mv (.t 13)), o 8 (.mv (.t 14))]) (.seq (.reg [o 15 (.mv (.t 8)), o 16 (.un .not (.t 15))]) (.cond (.t 16) (.regd [o 17 (.load none (.t 2)), o 18 (.mv (.t 0)), o 19 (.load none (.t 3)), o 20 (.load none (.t 4)), o 21 (.look (.mk false [.i .u16]) .nils (.t 19) (.t 20) false), o 22 (.call (.k (.fn 72 [])) [.t 21]), o 23 (.mv (.t 1)), o 24 (.bslice [.nils] [(0, 1, .t 23)] 1), o 25 (.app 1 24 (.t 22) (.t 24)), .mk none (.upd (.mk false [.i .u16]) (.t 17) (.t 18) (.t 25)) none] [(0, [5, 8], [7]), (2, [], [7]), (3, [], [7]), (4, [], [7])] [7]) .skip))) 26 5 []
theorem l71 : compFunc Try.prog 71 = some L71 := by kernel_rfl
def L72 : XFunc := .mk (.seq (.reg [o 2 (.mv (.k .nils))]) (.seq (.reg [o 3 (.mv (.t 0)), o 4 (.mv (.t 0)), o 5 (.len (.t 4)), o 6 (.mv (.t 0)), o 7 (.len (.t 6)), o 8 (.cut 1 (.t 3) none (some (.t 5)) (some (.t 7))), o 2 (.mv (.t 8))]) .ret)) 9 1 [.t 2]
theorem l72 : compFunc Try.prog 72 = some L72 := by kernel_rfl
def L74 : XFunc := .mk (.seq (.reg [o 6 (.mv (.k (.bool false)))]) (.seq (.seq (.reg [o 8 (.mv (.t 2)), o 9 (.len (.t 8)), o 10 (.bin .eql (.t 9) (.k (.int .i64 (.ofNat 0))))]) (.cond (.t 10) (.seq (.reg [o 6 (.mv (.k (.bool true)))]) .ret) .skip)) (.seq (.seq (.reg [o 7 (.mv (.k (.int .i64 (.ofNat 0))))]) (.block 0 (.loop (.seq (.seq (.reg [o 11 (.mv (.t 7)), o 12 (.mv (.t 0)), o 13 (.len (.t 12)), o 14 (.bin .lss (.t 11) (.t 13))]) (.cond (.t 14) .skip (.exit 0))) (.seq (.block 1 (.seq (.regd [o 17 (.mv (.t 1)), o 18 (.mv (.t 7)), o 19 (.bin .shr (.t 17) (.t 18)), o 20 (.bin .and (.t 19) (.k (.int .i64 (.ofNat 1)))), o 21 (.bin .eql (.t 20) (.k (.int .i64 (.ofNat 1)))), o 22 (.mv (.t 21)), og 23 (.mv (.t 0)) 22 true, og 24 (.mv (.t 2)) 22 true, og 25 (.iaddr 1 (.t 24) (.k (.int .i64 (.ofNat 0)))) 22 true, og 26 (.load none (.t 25)) 22 true, og 27 (.iaddr 1 (.t 23) (.t 26)) 22 true, og 28 (.load none (.t 27)) 22 true, og 29 (.mv (.t 7)) 22 true, og 30 (.bin .shr (.t 28) (.t 29)) 22 true, og 31 (.bin .and (.t 30) (.k (.int .i64 (.ofNat 1)))) 22 true, og 32 (.bin .eql (.t 31) (.k (.int .i64 (.ofNat 1)))) 22 true, o 33 (.pick (.t 22) (.t 32) (.k (.bool false))), o 34 (.mv (.t 33)), og 35 (.mv (.t 0)) 34 true, og 36 (.mv (.t 1)) 34 true, og 37 (.mv (.t 7)) 34 true, og 38 (.bin .shl (.k (.int .i64 (.ofNat 1))) (.t 37)) 34 true, og 39 (.bin .andNot (.t 36) (.t 38)) 34 true, og 40 (.mv (.t 2)) 34 true, og 41 (.cut 1 (.t 40) (some (.k (.int .i64 (.ofNat 1)))) none none) 34 true, og 42 (.call (.k (.fn 74 [])) [.t 35, .t 39, .t 41]) 34 true, o 43 (.pick (.t 34) (.t 42) (.k (.bool false)))] [] []) (.cond (.t 43) (.seq (.reg [o 6 (.mv (.k (.bool true)))]) .ret) .skip))) (.reg [o 15 (.mv (.t 7)), o 16 (.bin .add (.t 15) (.k (.int .i64 (.ofNat 1)))), o 7 (.mv (.t 16))])))))) (.seq (.reg [o 6 (.mv (.k (.bool false)))]) .ret)))) 44 3 [.t 6]
theorem l74 : compFunc Try.prog 74 = some L74 := by kernel_rfl
def L75 : XFunc := .mk (.seq (.reg [o 4 (.mv (.k (.bool false)))]) (.seq (.reg [o 5 (.mv (.t 0)), o 6 (.mv (.t 1)), o 7 (.call (.k (.fn 83 [])) [.t 5, .t 6]), o 8 (.bin .geq (.t 7) (.k (.int .i64 (.ofNat 0)))), o 4 (.mv (.t 8))]) .ret)) 9 2 [.t 4]
theorem l75 : compFunc Try.prog 75 = some L75 := by kernel_rfl
def L76 : XFunc := .mk (.seq (.reg [o 3 (.mv (.k (.bool false)))]) (.seq (.reg [o 4 (.mv (.t 0)), o 5 (.load none (.t 1)), o 6 (.bin .shl (.k (.int .u8 (.ofNat 1))) (.t 5)), o 7 (.bin .sub (.t 6) (.k (.int .u8 (.ofNat 1)))), o 8 (.bin .neq (.t 4) (.t 7)), o 3 (.mv (.t 8))]) .ret)) 9 2 [.t 3]
theorem l76 : compFunc Try.prog 76 = some L76 := by kernel_rfl
def L79 : XFunc := .mk (.seq (.reg [o 2 (.mv (.k .nils))]) (.seq (.reg [o 3 (.mv (.t 0)), o 4 (.call (.k (.fn 84 [])) [.k .nils, .t 3]), o 2 (.mv (.t 4))]) .ret)) 5 1 [.t 2]
theorem l79 : compFunc Try.prog 79 = some L79 := by kernel_rfl
def L80 : XFunc := .mk (.seq (.reg [o 3 (.mv (.t 0)), o 4 (.len (.t 3)), o 2 (.mv (.t 4))]) (.reg [o 5 (.mv (.t 0)), o 6 (.mv (.t 2)), o 7 (.mv (.t 2)), o 8 (.conv .u64 (.t 7)), o 9 (.call (.k (.fn 86 [])) [.t 8]), o 10 (.call (.k (.fn 85 [])) [.t 5, .k (.int .i64 (.ofNat 0)), .t 6, .t 9])])) 11 1 []
theorem l80 : compFunc Try.prog 80 = some L80 := by kernel_rfl
def L81 : XFunc := .mk (.mrange [o 4 (.load none (.t 1))] 5 (.t 4) 0 6 7 1 8 [o 9 (.ext (.t 8) 0), o 3 (.mv (.t 9))] (.seq (.reg [o 10 (.mv (.t 0)), o 11 (.mv (.t 3)), o 12 (.call (.t 10) [.t 11]), o 13 (.un .not (.t 12))]) (.cond (.t 13) .ret .skip))) 14 2 []
theorem l81 : compFunc Try.prog 81 = some L81 := by kernel_rfl
def L82 : XFunc := .mk (.seq (.reg [o 2 (.mv (.k .nils))]) (.seq (.reg [o 3 (.mv (.t 0)), o 4 (.mv (.t 0)), o 5 (.len (.t 4)), o 6 (.mv (.t 0)), o 7 (.len (.t 6)), o 8 (.cut 2 (.t 3) none (some (.t 5)) (some (.t 7))), o 2 (.mv (.t 8))]) .ret)) 9 1 [.t 2]
theorem l82 : compFunc Try.prog 82 = some L82 := by kernel_rfl
def L83 : XFunc := .mk (.seq (.reg [o 4 (.mv (.k (.int .i64 (.ofNat 0))))]) (.seq (.seq (.reg [o 6 (.mv (.t 0)), o 7 (.len (.t 6)), o 8 (.mv (.k (.int .i64 (.ofNat 0))))]) (.block 0 (.loop (.seq (.reg [o 9 (.bin .lss (.t 8) (.t 7))]) (.seq (.cond (.t 9) .skip (.exit 0)) (.seq (.block 1 (.seq (.reg [o 10 (.mv (.t 8)), o 5 (.mv (.t 10))]) (.seq (.reg [o 11 (.mv (.t 1)), o 12 (.mv (.t 0)), o 13 (.mv (.t 5)), o 14 (.iaddr 1 (.t 12) (.t 13)), o 15 (.load none (.t 14)), o 16 (.call (.t 11) [.t 15])]) (.cond (.t 16) (.seq (.reg [o 17 (.mv (.t 5)), o 4 (.mv (.t 17))]) .ret) .skip)))) (.reg [o 18 (.bin .add (.t 8) (.k (.int .i64 (.ofNat 1)))), o 8 (.mv (.t 18))]))))))) (.seq (.reg [o 4 (.mv (.k (.int .i64 (.negSucc 0))))]) .ret))) 19 2 [.t 4]
theorem l83 : compFunc Try.prog 83 = some L83 := by kernel_rfl
def L85 : XFunc := .mk (.seq (.reg [o 8 (.mv (.k (.bool true)))]) (.seq (.reg [o 9 (.mv (.k (.bool true)))]) (.block 0 (.loop (.block 1 (.seq (.reg [o 19 (.mv (.t 2)), o 20 (.mv (.t 1)), o 21 (.bin .sub (.t 19) (.t 20)), o 10 (.mv (.t 21))]) (.seq (.seq (.reg [o 22 (.mv (.t 10)), o 23 (.bin .leq (.t 22) (.k (.int .i64 (.ofNat 12))))]) (.cond (.t 23) (.seq (.reg [o 24 (.mv (.t 0)), o 25 (.mv (.t 1)), o 26 (.mv (.t 2)), o 27 (.call (.k (.fn 87 [])) [.t 24, .t 25, .t 26])]) .ret) .skip)) (.seq (.seq (.reg [o 28 (.mv (.t 3)), o 29 (.bin .eql (.t 28) (.k (.int .i64 (.ofNat 0))))]) (.cond (.t 29) (.seq (.reg [o 30 (.mv (.t 0)), o 31 (.mv (.t 1)), o 32 (.mv (.t 2)), o 33 (.call (.k (.fn 88 [])) [.t 30, .t 31, .t 32])]) .ret) .skip)) (.seq (.seq (.reg [o 34 (.mv (.t 8)), o 35 (.un .not (.t 34))]) (.cond (.t 35) (.seq (.reg [o 36 (.mv (.t 0)), o 37 (.mv (.t 1)), o 38 (.mv (.t 2)), o 39 (.call (.k (.fn 89 [])) [.t 36, .t 37, .t 38])]) (.reg [o 40 (.mv (.t 3)), o 41 (.bin .sub (.t 40) (.k (.int .i64 (.ofNat 1)))), o 3 (.mv (.t 41))])) .skip)) (.seq (.reg [o 43 (.mv (.t 0)), o 44 (.mv (.t 1)), o 45 (.mv (.t 2)), o 46 (.call (.k (.fn 90 [])) [.t 43, .t 44, .t 45]), o 42 (.mv (.t 46)), o 47 (.ext (.t 42) 0), o 48 (.ext (.t 42) 1), o 11 (.mv (.t 47)), o 12 (.mv (.t 48))]) (.seq (.seq (.reg [o 49 (.mv (.t 12)), o 50 (.bin .eql (.t 49) (.k (.int .i64 (.ofNat 2))))]) (.cond (.t 50) (.seq (.reg [o 51 (.mv (.t 0)), o 52 (.mv (.t 1)), o 53 (.mv (.t 2)), o 54 (.call (.k (.fn 91 [])) [.t 51, .t 52, .t 53])]) (.seq (.reg [o 55 (.mv (.t 2)), o 56 (.bin .sub (.t 55) (.k (.int .i64 (.ofNat 1)))), o 57 (.mv (.t 11)), o 58 (.mv (.t 1)), o 59 (.bin .sub (.t 57) (.t 58)), o 60 (.bin .sub (.t 56) (.t 59)), o 11 (.mv (.t 60))]) (.reg [o 12 (.mv (.k (.int .i64 (.ofNat 1))))]))) .skip)) (.seq (.seq (.reg [o 61 (.mv (.t 8)), o 62 (.mv (.t 61)), og 63 (.mv (.t 9)) 62 true, o 64 (.pick (.t 62) (.t 63) (.k (.bool false))), o 65 (.mv (.t 64)), og 66 (.mv (.t 12)) 65 true, og 67 (.bin .eql (.t 66) (.k (.int .i64 (.ofNat 1)))) 65 true, o 68 (.pick (.t 65) (.t 67) (.k (.bool false)))]) (.cond (.t 68) (.seq (.reg [o 69 (.mv (.t 0)), o 70 (.mv (.t 1)), o 71 (.mv (.t 2)), o 72 (.call (.k (.fn 92 [])) [.t 69, .t 70, .t 71])]) (.cond (.t 72) .ret .skip)) .skip)) (.seq (.seq (.regd [o 73 (.mv (.t 1)), o 74 (.bin .gtr (.t 73) (.k (.int .i64 (.ofNat 0)))), o 75 (.mv (.t 74)), og 76 (.mv (.t 0)) 75 true, og 77 (.mv (.t 1)) 75 true, og 78 (.bin .sub (.t 77) (.k (.int .i64 (.ofNat 1)))) 75 true, og 79 (.iaddr 1 (.t 76) (.t 78)) 75 true, og 80 (.load none (.t 79)) 75 true, og 81 (.mv (.t 0)) 75 true, og 82 (.mv (.t 11)) 75 true, og 83 (.iaddr 1 (.t 81) (.t 82)) 75 true, og 84 (.load none (.t 83)) 75 true, og 85 (.call (.k (.fn 93 [])) [.t 80, .t 84]) 75 true, og 86 (.un .not (.t 85)) 75 true, o 87 (.pick (.t 75) (.t 86) (.k (.bool false)))] [] []) (.cond (.t 87) (.seq (.reg [o 88 (.mv (.t 0)), o 89 (.mv (.t 1)), o 90 (.mv (.t 2)), o 91 (.mv (.t 11)), o 92 (.call (.k (.fn 94 [])) [.t 88, .t 89, .t 90, .t 91]), o 13 (.mv (.t 92))]) (.seq (.reg [o 93 (.mv (.t 13)), o 1 (.mv (.t 93))]) (.exit 1))) .skip)) (.seq (.reg [o 95 (.mv (.t 0)), o 96 (.mv (.t 1)), o 97 (.mv (.t 2)), o 98 (.mv (.t 11)), o 99 (.call (.k (.fn 95 [])) [.t 95, .t 96, .t 97, .t 98]), o 94 (.mv (.t 99)), o 100 (.ext (.t 94) 0), o 101 (.ext (.t 94) 1), o 14 (.mv (.t 100)), o 15 (.mv (.t 101))]) (.seq (.reg [o 102 (.mv (.t 15)), o 9 (.mv (.t 102))]) (.seq (.reg [o 103 (.mv (.t 14)), o 104 (.mv (.t 1)), o 105 (.bin .sub (.t 103) (.t 104)), o 106 (.mv (.t 2)), o 107 (.mv (.t 14)), o 108 (.bin .sub (.t 106) (.t 107)), o 16 (.mv (.t 105)), o 17 (.mv (.t 108))]) (.seq (.reg [o 109 (.mv (.t 10)), o 110 (.bin .quo (.t 109) (.k (.int .i64 (.ofNat 8)))), o 18 (.mv (.t 110))]) (.seq (.reg [o 111 (.mv (.t 16)), o 112 (.mv (.t 17)), o 113 (.bin .lss (.t 111) (.t 112))]) (.cond (.t 113) (.seq (.reg [o 114 (.mv (.t 16)), o 115 (.mv (.t 18)), o 116 (.bin .geq (.t 114) (.t 115)), o 8 (.mv (.t 116))]) (.seq (.reg [o 117 (.mv (.t 0)), o 118 (.mv (.t 1)), o 119 (.mv (.t 14)), o 120 (.mv (.t 3)), o 121 (.call (.k (.fn 85 [])) [.t 117, .t 118, .t 119, .t 120])]) (.reg [o 122 (.mv (.t 14)), o 123 (.bin .add (.t 122) (.k (.int .i64 (.ofNat 1)))), o 1 (.mv (.t 123))]))) (.seq (.reg [o 124 (.mv (.t 17)), o 125 (.mv (.t 18)), o 126 (.bin .geq (.t 124) (.t 125)), o 8 (.mv (.t 126))]) (.seq (.reg [o 127 (.mv (.t 0)), o 128 (.mv (.t 14)), o 129 (.bin .add (.t 128) (.k (.int .i64 (.ofNat 1)))), o 130 (.mv (.t 2)), o 131 (.mv (.t 3)), o 132 (.call (.k (.fn 85 [])) [.t 127, .t 129, .t 130, .t 131])]) (.reg [o 133 (.mv (.t 14)), o 2 (.mv (.t 133))])))))))))))))))))))))) 134 4 []
theorem l85 : compFunc Try.prog 85 = some L85 := by kernel_rfl
def L86 : XFunc := .mk (.seq (.reg [o 2 (.mv (.k (.int .i64 (.ofNat 0))))]) (.seq (.cond (.k (.bool false)) (.seq (.reg [o 3 (.mv (.t 0)), o 4 (.conv .u32 (.t 3)), o 5 (.call (.k (.fn 96 [])) [.t 4]), o 2 (.mv (.t 5))]) .ret) .skip) (.seq (.reg [o 6 (.mv (.t 0)), o 7 (.call (.k (.fn 97 [])) [.t 6]), o 2 (.mv (.t 7))]) .ret))) 8 1 [.t 2]
theorem l86 : compFunc Try.prog 86 = some L86 := by kernel_rfl
def L87 : XFunc := .mk (.seq (.reg [o 8 (.mv (.t 1)), o 9 (.bin .add (.t 8) (.k (.int .i64 (.ofNat 1)))), o 6 (.mv (.t 9))]) (.block 0 (.loop (.seq (.seq (.reg [o 10 (.mv (.t 6)), o 11 (.mv (.t 2)), o 12 (.bin .lss (.t 10) (.t 11))]) (.cond (.t 12) .skip (.exit 0))) (.seq (.block 1 (.seq (.reg [o 15 (.mv (.t 6)), o 7 (.mv (.t 15))]) (.block 2 (.loop (.seq (.seq (.regd [o 16 (.mv (.t 7)), o 17 (.mv (.t 1)), o 18 (.bin .gtr (.t 16) (.t 17)), o 19 (.mv (.t 18)), og 20 (.mv (.t 0)) 19 true, og 21 (.mv (.t 7)) 19 true, og 22 (.iaddr 1 (.t 20) (.t 21)) 19 true, og 23 (.load none (.t 22)) 19 true, og 24 (.mv (.t 0)) 19 true, og 25 (.mv (.t 7)) 19 true, og 26 (.bin .sub (.t 25) (.k (.int .i64 (.ofNat 1)))) 19 true, og 27 (.iaddr 1 (.t 24) (.t 26)) 19 true, og 28 (.load none (.t 27)) 19 true, og 29 (.call (.k (.fn 93 [])) [.t 23, .t 28]) 19 true, o 30 (.pick (.t 19) (.t 29) (.k (.bool false)))] [] []) (.cond (.t 30) .skip (.exit 2))) (.seq (.block 3 (.regd [o 33 (.mv (.t 0)), o 34 (.mv (.t 7)), o 35 (.mv (.t 0)), o 36 (.mv (.t 7)), o 37 (.bin .sub (.t 36) (.k (.int .i64 (.ofNat 1)))), o 38 (.mv (.t 0)), o 39 (.mv (.t 7)), o 40 (.bin .sub (.t 39) (.k (.int .i64 (.ofNat 1)))), o 41 (.iaddr 1 (.t 38) (.t 40)), o 42 (.load none (.t 41)), o 43 (.mv (.t 0)), o 44 (.mv (.t 7)), o 45 (.iaddr 1 (.t 43) (.t 44)), o 46 (.load none (.t 45)), o 47 (.iaddr 1 (.t 33) (.t 34)), .mk none (.store 1 (.t 47) (.t 42)) none, o 48 (.iaddr 1 (.t 35) (.t 37)), .mk none (.store 1 (.t 48) (.t 46)) none] [] [])) (.reg [o 31 (.mv (.t 7)), o 32 (.bin .sub (.t 31) (.k (.int .i64 (.ofNat 1)))), o 7 (.mv (.t 32))]))))))) (.reg [o 13 (.mv (.t 6)), o 14 (.bin .add (.t 13) (.k (.int .i64 (.ofNat 1)))), o 6 (.mv (.t 14))])))))) 49 3 []
theorem l87 : compFunc Try.prog 87 = some L87 := by kernel_rfl
def L88 : XFunc := .mk (.seq (.reg [o 11 (.mv (.t 1)), o 6 (.mv (.t 11))]) (.seq (.reg [o 7 (.mv (.k (.int .i64 (.ofNat 0))))]) (.seq (.reg [o 12 (.mv (.t 2)), o 13 (.mv (.t 1)), o 14 (.bin .sub (.t 12) (.t 13)), o 8 (.mv (.t 14))]) (.seq (.seq (.reg [o 15 (.mv (.t 8)), o 16 (.bin .sub (.t 15) (.k (.int .i64 (.ofNat 1)))), o 17 (.bin .quo (.t 16) (.k (.int .i64 (.ofNat 2)))), o 9 (.mv (.t 17))]) (.block 0 (.loop (.seq (.seq (.reg [o 18 (.mv (.t 9)), o 19 (.bin .geq (.t 18) (.k (.int .i64 (.ofNat 0))))]) (.cond (.t 19) .skip (.exit 0))) (.seq (.block 1 (.reg [o 22 (.mv (.t 0)), o 23 (.mv (.t 9)), o 24 (.mv (.t 8)), o 25 (.mv (.t 6)), o 26 (.call (.k (.fn 98 [])) [.t 22, .t 23, .t 24, .t 25])])) (.reg [o 20 (.mv (.t 9)), o 21 (.bin .sub (.t 20) (.k (.int .i64 (.ofNat 1)))), o 9 (.mv (.t 21))])))))) (.seq (.reg [o 27 (.mv (.t 8)), o 28 (.bin .sub (.t 27) (.k (.int .i64 (.ofNat 1)))), o 10 (.mv (.t 28))]) (.block 2 (.loop (.seq (.seq (.reg [o 29 (.mv (.t 10)), o 30 (.bin .geq (.t 29) (.k (.int .i64 (.ofNat 0))))]) (.cond (.t 30) .skip (.exit 2))) (.seq (.block 3 (.seq (.regd [o 33 (.mv (.t 0)), o 34 (.mv (.t 6)), o 35 (.mv (.t 0)), o 36 (.mv (.t 6)), o 37 (.mv (.t 10)), o 38 (.bin .add (.t 36) (.t 37)), o 39 (.mv (.t 0)), o 40 (.mv (.t 6)), o 41 (.mv (.t 10)), o 42 (.bin .add (.t 40) (.t 41)), o 43 (.iaddr 1 (.t 39) (.t 42)), o 44 (.load none (.t 43)), o 45 (.mv (.t 0)), o 46 (.mv (.t 6)), o 47 (.iaddr 1 (.t 45) (.t 46)), o 48 (.load none (.t 47)), o 49 (.iaddr 1 (.t 33) (.t 34)), .mk none (.store 1 (.t 49) (.t 44)) none, o 50 (.iaddr 1 (.t 35) (.t 38)), .mk none (.store 1 (.t 50) (.t 48)) none] [] []) (.reg [o 51 (.mv (.t 0)), o 52 (.mv (.t 7)), o 53 (.mv (.t 10)), o 54 (.mv (.t 6)), o 55 (.call (.k (.fn 98 [])) [.t 51, .t 52, .t 53, .t 54])]))) (.reg [o 31 (.mv (.t 10)), o 32 (.bin .sub (.t 31) (.k (.int .i64 (.ofNat 1)))), o 10 (.mv (.t 32))])))))))))) 56 3 []
theorem l88 : compFunc Try.prog 88 = some L88 := by kernel_rfl
def L89 : XFunc := .mk (.seq (.reg [o 11 (.mv (.t 2)), o 12 (.mv (.t 1)), o 13 (.bin .sub (.t 11) (.t 12)), o 6 (.mv (.t 13))]) (.seq (.reg [o 14 (.mv (.t 6)), o 15 (.bin .geq (.t 14) (.k (.int .i64 (.ofNat 8))))]) (.cond (.t 15) (.seq (.reg [o 16 (.mv (.t 6)), o 17 (.conv .u64 (.t 16)), o 7 (.alloc [.int .u64 (.ofNat 0)]), .mk none (.store 1 (.t 7) (.t 17)) none]) (.seq (.reg [o 18 (.mv (.t 6)), o 19 (.call (.k (.fn 99 [])) [.t 18]), o 8 (.mv (.t 19))]) (.seq (.reg [o 20 (.mv (.t 1)), o 21 (.mv (.t 6)), o 22 (.bin .quo (.t 21) (.k (.int .i64 (.ofNat 4)))), o 23 (.bin .mul (.t 22) (.k (.int .i64 (.ofNat 2)))), o 24 (.bin .add (.t 20) (.t 23)), o 25 (.bin .sub (.t 24) (.k (.int .i64 (.ofNat 1)))), o 9 (.mv (.t 25))]) (.block 0 (.loop (.seq (.seq (.reg [o 26 (.mv (.t 9)), o 27 (.mv (.t 1)), o 28 (.mv (.t 6)), o 29 (.bin .quo (.t 28) (.k (.int .i64 (.ofNat 4)))), o 30 (.bin .mul (.t 29) (.k (.int .i64 (.ofNat 2)))), o 31 (.bin .add (.t 27) (.t 30)), o 32 (.bin .add (.t 31) (.k (.int .i64 (.ofNat 1)))), o 33 (.bin .leq (.t 26) (.t 32))]) (.cond (.t 33) .skip (.exit 0))) (.seq (.block 1 (.seq (.reg [o 36 (.call (.k (.fn 100 [])) [.t 7]), o 37 (.mv (.t 8)), o 38 (.bin .sub (.t 37) (.k (.int .u64 (.ofNat 1)))), o 39 (.bin .and (.t 36) (.t 38)), o 40 (.conv .i64 (.t 39)), o 10 (.mv (.t 40))]) (.seq (.seq (.reg [o 41 (.mv (.t 10)), o 42 (.mv (.t 6)), o 43 (.bin .geq (.t 41) (.t 42))]) (.cond (.t 43) (.reg [o 44 (.mv (.t 10)), o 45 (.mv (.t 6)), o 46 (.bin .sub (.t 44) (.t 45)), o 10 (.mv (.t 46))]) .skip)) (.regd [o 47 (.mv (.t 0)), o 48 (.mv (.t 9)), o 49 (.mv (.t 0)), o 50 (.mv (.t 1)), o 51 (.mv (.t 10)), o 52 (.bin .add (.t 50) (.t 51)), o 53 (.mv (.t 0)), o 54 (.mv (.t 1)), o 55 (.mv (.t 10)), o 56 (.bin .add (.t 54) (.t 55)), o 57 (.iaddr 1 (.t 53) (.t 56)), o 58 (.load none (.t 57)), o 59 (.mv (.t 0)), o 60 (.mv (.t 9)), o 61 (.iaddr 1 (.t 59) (.t 60)), o 62 (.load none (.t 61)), o 63 (.iaddr 1 (.t 47) (.t 48)), .mk none (.store 1 (.t 63) (.t 58)) none, o 64 (.iaddr 1 (.t 49) (.t 52)), .mk none (.store 1 (.t 64) (.t 62)) none] [] [])))) (.reg [o 34 (.mv (.t 9)), o 35 (.bin .add (.t 34) (.k (.int .i64 (.ofNat 1)))), o 9 (.mv (.t 35))])))))))) .skip))) 65 3 []
theorem l89 : compFunc Try.prog 89 = some L89 := by kernel_rfl
def L90 : XFunc := .mk (.seq (.reg [o 6 (.mv (.k (.int .i64 (.ofNat 0)))), o 7 (.mv (.k (.int .i64 (.ofNat 0))))]) (.seq (.reg [o 13 (.mv (.t 2)), o 14 (.mv (.t 1)), o 15 (.bin .sub (.t 13) (.t 14)), o 8 (.mv (.t 15))]) (.seq (.reg [o 9 (.alloc [.int .i64 (.ofNat 0)])]) (.seq (.reg [o 16 (.mv (.t 1)), o 17 (.mv (.t 8)), o 18 (.bin .quo (.t 17) (.k (.int .i64 (.ofNat 4)))), o 19 (.bin .mul (.t 18) (.k (.int .i64 (.ofNat 1)))), o 20 (.bin .add (.t 16) (.t 19)), o 10 (.mv (.t 20))]) (.seq (.reg [o 21 (.mv (.t 1)), o 22 (.mv (.t 8)), o 23 (.bin .quo (.t 22) (.k (.int .i64 (.ofNat 4)))), o 24 (.bin .mul (.t 23) (.k (.int .i64 (.ofNat 2)))), o 25 (.bin .add (.t 21) (.t 24)), o 11 (.mv (.t 25))]) (.seq (.reg [o 26 (.mv (.t 1)), o 27 (.mv (.t 8)), o 28 (.bin .quo (.t 27) (.k (.int .i64 (.ofNat 4)))), o 29 (.bin .mul (.t 28) (.k (.int .i64 (.ofNat 3)))), o 30 (.bin .add (.t 26) (.t 29)), o 12 (.mv (.t 30))]) (.seq (.seq (.reg [o 31 (.mv (.t 8)), o 32 (.bin .geq (.t 31) (.k (.int .i64 (.ofNat 8))))]) (.cond (.t 32) (.seq (.seq (.reg [o 33 (.mv (.t 8)), o 34 (.bin .geq (.t 33) (.k (.int .i64 (.ofNat 50))))]) (.cond (.t 34) (.seq (.reg [o 35 (.mv (.t 0)), o 36 (.mv (.t 10)), o 37 (.call (.k (.fn 101 [])) [.t 35, .t 36, .t 9]), o 10 (.mv (.t 37))]) (.seq (.reg [o 38 (.mv (.t 0)), o 39 (.mv (.t 11)), o 40 (.call (.k (.fn 101 [])) [.t 38, .t 39, .t 9]), o 11 (.mv (.t 40))]) (.reg [o 41 (.mv (.t 0)), o 42 (.mv (.t 12)), o 43 (.call (.k (.fn 101 [])) [.t 41, .t 42, .t 9]), o 12 (.mv (.t 43))]))) .skip)) (.reg [o 44 (.mv (.t 0)), o 45 (.mv (.t 10)), o 46 (.mv (.t 11)), o 47 (.mv (.t 12)), o 48 (.call (.k (.fn 102 [])) [.t 44, .t 45, .t 46, .t 47, .t 9]), o 11 (.mv (.t 48))])) .skip)) (.seq (.reg [o 49 (.load none (.t 9))]) (.block 0 (.seq (.reg [o 52 (.bin .eql (.t 49) (.k (.int .i64 (.ofNat 0)))), o 51 (.mv (.t 52))]) (.cond (.t 51) (.seq (.reg [o 53 (.mv (.t 11)), o 6 (.mv (.t 53)), o 7 (.mv (.k (.int .i64 (.ofNat 1))))]) .ret) (.seq (.reg [o 55 (.bin .eql (.t 49) (.k (.int .i64 (.ofNat 12)))), o 54 (.mv (.t 55))]) (.cond (.t 54) (.seq (.reg [o 56 (.mv (.t 11)), o 6 (.mv (.t 56)), o 7 (.mv (.k (.int .i64 (.ofNat 2))))]) .ret) (.seq (.reg [o 50 (.mv (.t 11)), o 6 (.mv (.t 50)), o 7 (.mv (.k (.int .i64 (.ofNat 0))))]) .ret)))))))))))))) 57 3 [.t 6, .t 7]
theorem l90 : compFunc Try.prog 90 = some L90 := by kernel_rfl
def L91 : XFunc := .mk (.seq (.reg [o 8 (.mv (.t 1)), o 6 (.mv (.t 8))]) (.seq (.reg [o 9 (.mv (.t 2)), o 10 (.bin .sub (.t 9) (.k (.int .i64 (.ofNat 1)))), o 7 (.mv (.t 10))]) (.block 0 (.loop (.seq (.seq (.reg [o 11 (.mv (.t 6)), o 12 (.mv (.t 7)), o 13 (.bin .lss (.t 11) (.t 12))]) (.cond (.t 13) .skip (.exit 0))) (.block 1 (.seq (.regd [o 14 (.mv (.t 0)), o 15 (.mv (.t 6)), o 16 (.mv (.t 0)), o 17 (.mv (.t 7)), o 18 (.mv (.t 0)), o 19 (.mv (.t 7)), o 20 (.iaddr 1 (.t 18) (.t 19)), o 21 (.load none (.t 20)), o 22 (.mv (.t 0)), o 23 (.mv (.t 6)), o 24 (.iaddr 1 (.t 22) (.t 23)), o 25 (.load none (.t 24)), o 26 (.iaddr 1 (.t 14) (.t 15)), .mk none (.store 1 (.t 26) (.t 21)) none, o 27 (.iaddr 1 (.t 16) (.t 17)), .mk none (.store 1 (.t 27) (.t 25)) none] [] []) (.seq (.reg [o 28 (.mv (.t 6)), o 29 (.bin .add (.t 28) (.k (.int .i64 (.ofNat 1)))), o 6 (.mv (.t 29))]) (.reg [o 30 (.mv (.t 7)), o 31 (.bin .sub (.t 30) (.k (.int .i64 (.ofNat 1)))), o 7 (.mv (.t 31))]))))))))) 32 3 []
theorem l91 : compFunc Try.prog 91 = some L91 := by kernel_rfl
def L92 : XFunc := .mk (.seq (.reg [o 6 (.mv (.k (.bool false)))]) (.seq (.reg [o 11 (.mv (.t 1)), o 12 (.bin .add (.t 11) (.k (.int .i64 (.ofNat 1)))), o 7 (.mv (.t 12))]) (.seq (.seq (.reg [o 8 (.mv (.k (.int .i64 (.ofNat 0))))]) (.block 0 (.loop (.seq (.seq (.reg [o 13 (.mv (.t 8)), o 14 (.bin .lss (.t 13) (.k (.int .i64 (.ofNat 5))))]) (.cond (.t 14) .skip (.exit 0))) (.seq (.block 1 (.seq (.block 2 (.loop (.seq (.seq (.regd [o 17 (.mv (.t 7)), o 18 (.mv (.t 2)), o 19 (.bin .lss (.t 17) (.t 18)), o 20 (.mv (.t 19)), og 21 (.mv (.t 0)) 20 true, og 22 (.mv (.t 7)) 20 true, og 23 (.iaddr 1 (.t 21) (.t 22)) 20 true, og 24 (.load none (.t 23)) 20 true, og 25 (.mv (.t 0)) 20 true, og 26 (.mv (.t 7)) 20 true, og 27 (.bin .sub (.t 26) (.k (.int .i64 (.ofNat 1)))) 20 true, og 28 (.iaddr 1 (.t 25) (.t 27)) 20 true, og 29 (.load none (.t 28)) 20 true, og 30 (.call (.k (.fn 93 [])) [.t 24, .t 29]) 20 true, og 31 (.un .not (.t 30)) 20 true, o 32 (.pick (.t 20) (.t 31) (.k (.bool false)))] [] []) (.cond (.t 32) .skip (.exit 2))) (.block 3 (.reg [o 33 (.mv (.t 7)), o 34 (.bin .add (.t 33) (.k (.int .i64 (.ofNat 1)))), o 7 (.mv (.t 34))]))))) (.seq (.seq (.reg [o 35 (.mv (.t 7)), o 36 (.mv (.t 2)), o 37 (.bin .eql (.t 35) (.t 36))]) (.cond (.t 37) (.seq (.reg [o 6 (.mv (.k (.bool true)))]) .ret) .skip)) (.seq (.seq (.reg [o 38 (.mv (.t 2)), o 39 (.mv (.t 1)), o 40 (.bin .sub (.t 38) (.t 39)), o 41 (.bin .lss (.t 40) (.k (.int .i64 (.ofNat 50))))]) (.cond (.t 41) (.seq (.reg [o 6 (.mv (.k (.bool false)))]) .ret) .skip)) (.seq (.regd [o 42 (.mv (.t 0)), o 43 (.mv (.t 7)), o 44 (.mv (.t 0)), o 45 (.mv (.t 7)), o 46 (.bin .sub (.t 45) (.k (.int .i64 (.ofNat 1)))), o 47 (.mv (.t 0)), o 48 (.mv (.t 7)), o 49 (.bin .sub (.t 48) (.k (.int .i64 (.ofNat 1)))), o 50 (.iaddr 1 (.t 47) (.t 49)), o 51 (.load none (.t 50)), o 52 (.mv (.t 0)), o 53 (.mv (.t 7)), o 54 (.iaddr 1 (.t 52) (.t 53)), o 55 (.load none (.t 54)), o 56 (.iaddr 1 (.t 42) (.t 43)), .mk none (.store 1 (.t 56) (.t 51)) none, o 57 (.iaddr 1 (.t 44) (.t 46)), .mk none (.store 1 (.t 57) (.t 55)) none] [] []) (.seq (.seq (.reg [o 58 (.mv (.t 7)), o 59 (.mv (.t 1)), o 60 (.bin .sub (.t 58) (.t 59)), o 61 (.bin .geq (.t 60) (.k (.int .i64 (.ofNat 2))))]) (.cond (.t 61) (.seq (.reg [o 62 (.mv (.t 7)), o 63 (.bin .sub (.t 62) (.k (.int .i64 (.ofNat 1)))), o 9 (.mv (.t 63))]) (.block 4 (.loop (.seq (.seq (.reg [o 64 (.mv (.t 9)), o 65 (.bin .geq (.t 64) (.k (.int .i64 (.ofNat 1))))]) (.cond (.t 65) .skip (.exit 4))) (.seq (.block 5 (.seq (.seq (.regd [o 68 (.mv (.t 0)), o 69 (.mv (.t 9)), o 70 (.iaddr 1 (.t 68) (.t 69)), o 71 (.load none (.t 70)), o 72 (.mv (.t 0)), o 73 (.mv (.t 9)), o 74 (.bin .sub (.t 73) (.k (.int .i64 (.ofNat 1)))), o 75 (.iaddr 1 (.t 72) (.t 74)), o 76 (.load none (.t 75)), o 77 (.call (.k (.fn 93 [])) [.t 71, .t 76]), o 78 (.un .not (.t 77))] [] []) (.cond (.t 78) (.exit 4) .skip)) (.regd [o 79 (.mv (.t 0)), o 80 (.mv (.t 9)), o 81 (.mv (.t 0)), o 82 (.mv (.t 9)), o 83 (.bin .sub (.t 82) (.k (.int .i64 (.ofNat 1)))), o 84 (.mv (.t 0)), o 85 (.mv (.t 9)), o 86 (.bin .sub (.t 85) (.k (.int .i64 (.ofNat 1)))), o 87 (.iaddr 1 (.t 84) (.t 86)), o 88 (.load none (.t 87)), o 89 (.mv (.t 0)), o 90 (.mv (.t 9)), o 91 (.iaddr 1 (.t 89) (.t 90)), o 92 (.load none (.t 91)), o 93 (.iaddr 1 (.t 79) (.t 80)), .mk none (.store 1 (.t 93) (.t 88)) none, o 94 (.iaddr 1 (.t 81) (.t 83)), .mk none (.store 1 (.t 94) (.t 92)) none] [] []))) (.reg [o 66 (.mv (.t 9)), o 67 (.bin .sub (.t 66) (.k (.int .i64 (.ofNat 1)))), o 9 (.mv (.t 67))])))))) .skip)) (.seq (.reg [o 95 (.mv (.t 2)), o 96 (.mv (.t 7)), o 97 (.bin .sub (.t 95) (.t 96)), o 98 (.bin .geq (.t 97) (.k (.int .i64 (.ofNat 2))))]) (.cond (.t 98) (.seq (.reg [o 99 (.mv (.t 7)), o 100 (.bin .add (.t 99) (.k (.int .i64 (.ofNat 1)))), o 10 (.mv (.t 100))]) (.block 6 (.loop (.seq (.seq (.reg [o 101 (.mv (.t 10)), o 102 (.mv (.t 2)), o 103 (.bin .lss (.t 101) (.t 102))]) (.cond (.t 103) .skip (.exit 6))) (.seq (.block 7 (.seq (.seq (.regd [o 106 (.mv (.t 0)), o 107 (.mv (.t 10)), o 108 (.iaddr 1 (.t 106) (.t 107)), o 109 (.load none (.t 108)), o 110 (.mv (.t 0)), o 111 (.mv (.t 10)), o 112 (.bin .sub (.t 111) (.k (.int .i64 (.ofNat 1)))), o 113 (.iaddr 1 (.t 110) (.t 112)), o 114 (.load none (.t 113)), o 115 (.call (.k (.fn 93 [])) [.t 109, .t 114]), o 116 (.un .not (.t 115))] [] []) (.cond (.t 116) (.exit 6) .skip)) (.regd [o 117 (.mv (.t 0)), o 118 (.mv (.t 10)), o 119 (.mv (.t 0)), o 120 (.mv (.t 10)), o 121 (.bin .sub (.t 120) (.k (.int .i64 (.ofNat 1)))), o 122 (.mv (.t 0)), o 123 (.mv (.t 10)), o 124 (.bin .sub (.t 123) (.k (.int .i64 (.ofNat 1)))), o 125 (.iaddr 1 (.t 122) (.t 124)), o 126 (.load none (.t 125)), o 127 (.mv (.t 0)), o 128 (.mv (.t 10)), o 129 (.iaddr 1 (.t 127) (.t 128)), o 130 (.load none (.t 129)), o 131 (.iaddr 1 (.t 117) (.t 118)), .mk none (.store 1 (.t 131) (.t 126)) none, o 132 (.iaddr 1 (.t 119) (.t 121)), .mk none (.store 1 (.t 132) (.t 130)) none] [] []))) (.reg [o 104 (.mv (.t 10)), o 105 (.bin .add (.t 104) (.k (.int .i64 (.ofNat 1)))), o 10 (.mv (.t 105))])))))) .skip)))))))) (.reg [o 15 (.mv (.t 8)), o 16 (.bin .add (.t 15) (.k (.int .i64 (.ofNat 1)))), o 8 (.mv (.t 16))])))))) (.seq (.reg [o 6 (.mv (.k (.bool false)))]) .ret)))) 133 3 [.t 6]
theorem l92 : compFunc Try.prog 92 = some L92 := by kernel_rfl
def L93 : XFunc := .mk (.seq (.reg [o 4 (.mv (.k (.bool false)))]) (.seq (.reg [o 5 (.mv (.t 0)), o 6 (.call (.k (.fn 103 [])) [.t 5]), o 7 (.mv (.t 6)), og 8 (.mv (.t 1)) 7 true, og 9 (.call (.k (.fn 103 [])) [.t 8]) 7 true, og 10 (.un .not (.t 9)) 7 true, o 11 (.pick (.t 7) (.t 10) (.k (.bool false))), o 12 (.mv (.t 11)), og 13 (.mv (.t 0)) 12 false, og 14 (.mv (.t 1)) 12 false, og 15 (.bin .lss (.t 13) (.t 14)) 12 false, o 16 (.pick (.t 12) (.k (.bool true)) (.t 15)), o 4 (.mv (.t 16))]) .ret)) 17 2 [.t 4]
theorem l93 : compFunc Try.prog 93 = some L93 := by kernel_rfl
def L94 : XFunc := .mk (.seq (.reg [o 8 (.mv (.k (.int .i64 (.ofNat 0))))]) (.seq (.regd [o 11 (.mv (.t 0)), o 12 (.mv (.t 1)), o 13 (.mv (.t 0)), o 14 (.mv (.t 3)), o 15 (.mv (.t 0)), o 16 (.mv (.t 3)), o 17 (.iaddr 1 (.t 15) (.t 16)), o 18 (.load none (.t 17)), o 19 (.mv (.t 0)), o 20 (.mv (.t 1)), o 21 (.iaddr 1 (.t 19) (.t 20)), o 22 (.load none (.t 21)), o 23 (.iaddr 1 (.t 11) (.t 12)), .mk none (.store 1 (.t 23) (.t 18)) none, o 24 (.iaddr 1 (.t 13) (.t 14)), .mk none (.store 1 (.t 24) (.t 22)) none] [] []) (.seq (.reg [o 25 (.mv (.t 1)), o 26 (.bin .add (.t 25) (.k (.int .i64 (.ofNat 1)))), o 27 (.mv (.t 2)), o 28 (.bin .sub (.t 27) (.k (.int .i64 (.ofNat 1)))), o 9 (.mv (.t 26)), o 10 (.mv (.t 28))]) (.seq (.block 0 (.loop (.block 1 (.seq (.block 2 (.loop (.seq (.seq (.regd [o 29 (.mv (.t 9)), o 30 (.mv (.t 10)), o 31 (.bin .leq (.t 29) (.t 30)), o 32 (.mv (.t 31)), og 33 (.mv (.t 0)) 32 true, og 34 (.mv (.t 1)) 32 true, og 35 (.iaddr 1 (.t 33) (.t 34)) 32 true, og 36 (.load none (.t 35)) 32 true, og 37 (.mv (.t 0)) 32 true, og 38 (.mv (.t 9)) 32 true, og 39 (.iaddr 1 (.t 37) (.t 38)) 32 true, og 40 (.load none (.t 39)) 32 true, og 41 (.call (.k (.fn 93 [])) [.t 36, .t 40]) 32 true, og 42 (.un .not (.t 41)) 32 true, o 43 (.pick (.t 32) (.t 42) (.k (.bool false)))] [] []) (.cond (.t 43) .skip (.exit 2))) (.block 3 (.reg [o 44 (.mv (.t 9)), o 45 (.bin .add (.t 44) (.k (.int .i64 (.ofNat 1)))), o 9 (.mv (.t 45))]))))) (.seq (.block 4 (.loop (.seq (.seq (.regd [o 46 (.mv (.t 9)), o 47 (.mv (.t 10)), o 48 (.bin .leq (.t 46) (.t 47)), o 49 (.mv (.t 48)), og 50 (.mv (.t 0)) 49 true, og 51 (.mv (.t 1)) 49 true, og 52 (.iaddr 1 (.t 50) (.t 51)) 49 true, og 53 (.load none (.t 52)) 49 true, og 54 (.mv (.t 0)) 49 true, og 55 (.mv (.t 10)) 49 true, og 56 (.iaddr 1 (.t 54) (.t 55)) 49 true, og 57 (.load none (.t 56)) 49 true, og 58 (.call (.k (.fn 93 [])) [.t 53, .t 57]) 49 true, o 59 (.pick (.t 49) (.t 58) (.k (.bool false)))] [] []) (.cond (.t 59) .skip (.exit 4))) (.block 5 (.reg [o 60 (.mv (.t 10)), o 61 (.bin .sub (.t 60) (.k (.int .i64 (.ofNat 1)))), o 10 (.mv (.t 61))]))))) (.seq (.seq (.reg [o 62 (.mv (.t 9)), o 63 (.mv (.t 10)), o 64 (.bin .gtr (.t 62) (.t 63))]) (.cond (.t 64) (.exit 0) .skip)) (.seq (.regd [o 65 (.mv (.t 0)), o 66 (.mv (.t 9)), o 67 (.mv (.t 0)), o 68 (.mv (.t 10)), o 69 (.mv (.t 0)), o 70 (.mv (.t 10)), o 71 (.iaddr 1 (.t 69) (.t 70)), o 72 (.load none (.t 71)), o 73 (.mv (.t 0)), o 74 (.mv (.t 9)), o 75 (.iaddr 1 (.t 73) (.t 74)), o 76 (.load none (.t 75)), o 77 (.iaddr 1 (.t 65) (.t 66)), .mk none (.store 1 (.t 77) (.t 72)) none, o 78 (.iaddr 1 (.t 67) (.t 68)), .mk none (.store 1 (.t 78) (.t 76)) none] [] []) (.seq (.reg [o 79 (.mv (.t 9)), o 80 (.bin .add (.t 79) (.k (.int .i64 (.ofNat 1)))), o 9 (.mv (.t 80))]) (.reg [o 81 (.mv (.t 10)), o 82 (.bin .sub (.t 81) (.k (.int .i64 (.ofNat 1)))), o 10 (.mv (.t 82))]))))))))) (.seq (.reg [o 83 (.mv (.t 9)), o 8 (.mv (.t 83))]) .ret))))) 84 4 [.t 8]
theorem l94 : compFunc Try.prog 94 = some L94 := by kernel_rfl
def L95 : XFunc := .mk (.seq (.reg [o 8 (.mv (.k (.int .i64 (.ofNat 0)))), o 9 (.mv (.k (.bool false)))]) (.seq (.regd [o 12 (.mv (.t 0)), o 13 (.mv (.t 1)), o 14 (.mv (.t 0)), o 15 (.mv (.t 3)), o 16 (.mv (.t 0)), o 17 (.mv (.t 3)), o 18 (.iaddr 1 (.t 16) (.t 17)), o 19 (.load none (.t 18)), o 20 (.mv (.t 0)), o 21 (.mv (.t 1)), o 22 (.iaddr 1 (.t 20) (.t 21)), o 23 (.load none (.t 22)), o 24 (.iaddr 1 (.t 12) (.t 13)), .mk none (.store 1 (.t 24) (.t 19)) none, o 25 (.iaddr 1 (.t 14) (.t 15)), .mk none (.store 1 (.t 25) (.t 23)) none] [] []) (.seq (.reg [o 26 (.mv (.t 1)), o 27 (.bin .add (.t 26) (.k (.int .i64 (.ofNat 1)))), o 28 (.mv (.t 2)), o 29 (.bin .sub (.t 28) (.k (.int .i64 (.ofNat 1)))), o 10 (.mv (.t 27)), o 11 (.mv (.t 29))]) (.seq (.block 0 (.loop (.seq (.seq (.regd [o 30 (.mv (.t 10)), o 31 (.mv (.t 11)), o 32 (.bin .leq (.t 30) (.t 31)), o 33 (.mv (.t 32)), og 34 (.mv (.t 0)) 33 true, og 35 (.mv (.t 10)) 33 true, og 36 (.iaddr 1 (.t 34) (.t 35)) 33 true, og 37 (.load none (.t 36)) 33 true, og 38 (.mv (.t 0)) 33 true, og 39 (.mv (.t 1)) 33 true, og 40 (.iaddr 1 (.t 38) (.t 39)) 33 true, og 41 (.load none (.t 40)) 33 true, og 42 (.call (.k (.fn 93 [])) [.t 37, .t 41]) 33 true, o 43 (.pick (.t 33) (.t 42) (.k (.bool false)))] [] []) (.cond (.t 43) .skip (.exit 0))) (.block 1 (.reg [o 44 (.mv (.t 10)), o 45 (.bin .add (.t 44) (.k (.int .i64 (.ofNat 1)))), o 10 (.mv (.t 45))]))))) (.seq (.block 2 (.loop (.seq (.seq (.regd [o 46 (.mv (.t 10)), o 47 (.mv (.t 11)), o 48 (.bin .leq (.t 46) (.t 47)), o 49 (.mv (.t 48)), og 50 (.mv (.t 0)) 49 true, og 51 (.mv (.t 11)) 49 true, og 52 (.iaddr 1 (.t 50) (.t 51)) 49 true, og 53 (.load none (.t 52)) 49 true, og 54 (.mv (.t 0)) 49 true, og 55 (.mv (.t 1)) 49 true, og 56 (.iaddr 1 (.t 54) (.t 55)) 49 true, og 57 (.load none (.t 56)) 49 true, og 58 (.call (.k (.fn 93 [])) [.t 53, .t 57]) 49 true, og 59 (.un .not (.t 58)) 49 true, o 60 (.pick (.t 49) (.t 59) (.k (.bool false)))] [] []) (.cond (.t 60) .skip (.exit 2))) (.block 3 (.reg [o 61 (.mv (.t 11)), o 62 (.bin .sub (.t 61) (.k (.int .i64 (.ofNat 1)))), o 11 (.mv (.t 62))]))))) (.seq (.seq (.reg [o 63 (.mv (.t 10)), o 64 (.mv (.t 11)), o 65 (.bin .gtr (.t 63) (.t 64))]) (.cond (.t 65) (.seq (.regd [o 66 (.mv (.t 0)), o 67 (.mv (.t 11)), o 68 (.mv (.t 0)), o 69 (.mv (.t 1)), o 70 (.mv (.t 0)), o 71 (.mv (.t 1)), o 72 (.iaddr 1 (.t 70) (.t 71)), o 73 (.load none (.t 72)), o 74 (.mv (.t 0)), o 75 (.mv (.t 11)), o 76 (.iaddr 1 (.t 74) (.t 75)), o 77 (.load none (.t 76)), o 78 (.iaddr 1 (.t 66) (.t 67)), .mk none (.store 1 (.t 78) (.t 73)) none, o 79 (.iaddr 1 (.t 68) (.t 69)), .mk none (.store 1 (.t 79) (.t 77)) none] [] []) (.seq (.reg [o 80 (.mv (.t 11)), o 8 (.mv (.t 80)), o 9 (.mv (.k (.bool true)))]) .ret)) .skip)) (.seq (.regd [o 81 (.mv (.t 0)), o 82 (.mv (.t 10)), o 83 (.mv (.t 0)), o 84 (.mv (.t 11)), o 85 (.mv (.t 0)), o 86 (.mv (.t 11)), o 87 (.iaddr 1 (.t 85) (.t 86)), o 88 (.load none (.t 87)), o 89 (.mv (.t 0)), o 90 (.mv (.t 10)), o 91 (.iaddr 1 (.t 89) (.t 90)), o 92 (.load none (.t 91)), o 93 (.iaddr 1 (.t 81) (.t 82)), .mk none (.store 1 (.t 93) (.t 88)) none, o 94 (.iaddr 1 (.t 83) (.t 84)), .mk none (.store 1 (.t 94) (.t 92)) none] [] []) (.seq (.reg [o 95 (.mv (.t 10)), o 96 (.bin .add (.t 95) (.k (.int .i64 (.ofNat 1)))), o 10 (.mv (.t 96))]) (.seq (.reg [o 97 (.mv (.t 11)), o 98 (.bin .sub (.t 97) (.k (.int .i64 (.ofNat 1)))), o 11 (.mv (.t 98))]) (.seq (.block 4 (.loop (.block 5 (.seq (.block 6 (.loop (.seq (.seq (.regd [o 99 (.mv (.t 10)), o 100 (.mv (.t 11)), o 101 (.bin .leq (.t 99) (.t 100)), o 102 (.mv (.t 101)), og 103 (.mv (.t 0)) 102 true, og 104 (.mv (.t 10)) 102 true, og 105 (.iaddr 1 (.t 103) (.t 104)) 102 true, og 106 (.load none (.t 105)) 102 true, og 107 (.mv (.t 0)) 102 true, og 108 (.mv (.t 1)) 102 true, og 109 (.iaddr 1 (.t 107) (.t 108)) 102 true, og 110 (.load none (.t 109)) 102 true, og 111 (.call (.k (.fn 93 [])) [.t 106, .t 110]) 102 true, o 112 (.pick (.t 102) (.t 111) (.k (.bool false)))] [] []) (.cond (.t 112) .skip (.exit 6))) (.block 7 (.reg [o 113 (.mv (.t 10)), o 114 (.bin .add (.t 113) (.k (.int .i64 (.ofNat 1)))), o 10 (.mv (.t 114))]))))) (.seq (.block 8 (.loop (.seq (.seq (.regd [o 115 (.mv (.t 10)), o 116 (.mv (.t 11)), o 117 (.bin .leq (.t 115) (.t 116)), o 118 (.mv (.t 117)), og 119 (.mv (.t 0)) 118 true, og 120 (.mv (.t 11)) 118 true, og 121 (.iaddr 1 (.t 119) (.t 120)) 118 true, og 122 (.load none (.t 121)) 118 true, og 123 (.mv (.t 0)) 118 true, og 124 (.mv (.t 1)) 118 true, og 125 (.iaddr 1 (.t 123) (.t 124)) 118 true, og 126 (.load none (.t 125)) 118 true, og 127 (.call (.k (.fn 93 [])) [.t 122, .t 126]) 118 true, og 128 (.un .not (.t 127)) 118 true, o 129 (.pick (.t 118) (.t 128) (.k (.bool false)))] [] []) (.cond (.t 129) .skip (.exit 8))) (.block 9 (.reg [o 130 (.mv (.t 11)), o 131 (.bin .sub (.t 130) (.k (.int .i64 (.ofNat 1)))), o 11 (.mv (.t 131))]))))) (.seq (.seq (.reg [o 132 (.mv (.t 10)), o 133 (.mv (.t 11)), o 134 (.bin .gtr (.t 132) (.t 133))]) (.cond (.t 134) (.exit 4) .skip)) (.seq (.regd [o 135 (.mv (.t 0)), o 136 (.mv (.t 10)), o 137 (.mv (.t 0)), o 138 (.mv (.t 11)), o 139 (.mv (.t 0)), o 140 (.mv (.t 11)), o 141 (.iaddr 1 (.t 139) (.t 140)), o 142 (.load none (.t 141)), o 143 (.mv (.t 0)), o 144 (.mv (.t 10)), o 145 (.iaddr 1 (.t 143) (.t 144)), o 146 (.load none (.t 145)), o 147 (.iaddr 1 (.t 135) (.t 136)), .mk none (.store 1 (.t 147) (.t 142)) none, o 148 (.iaddr 1 (.t 137) (.t 138)), .mk none (.store 1 (.t 148) (.t 146)) none] [] []) (.seq (.reg [o 149 (.mv (.t 10)), o 150 (.bin .add (.t 149) (.k (.int .i64 (.ofNat 1)))), o 10 (.mv (.t 150))]) (.reg [o 151 (.mv (.t 11)), o 152 (.bin .sub (.t 151) (.k (.int .i64 (.ofNat 1)))), o 11 (.mv (.t 152))]))))))))) (.seq (.regd [o 153 (.mv (.t 0)), o 154 (.mv (.t 11)), o 155 (.mv (.t 0)), o 156 (.mv (.t 1)), o 157 (.mv (.t 0)), o 158 (.mv (.t 1)), o 159 (.iaddr 1 (.t 157) (.t 158)), o 160 (.load none (.t 159)), o 161 (.mv (.t 0)), o 162 (.mv (.t 11)), o 163 (.iaddr 1 (.t 161) (.t 162)), o 164 (.load none (.t 163)), o 165 (.iaddr 1 (.t 153) (.t 154)), .mk none (.store 1 (.t 165) (.t 160)) none, o 166 (.iaddr 1 (.t 155) (.t 156)), .mk none (.store 1 (.t 166) (.t 164)) none] [] []) (.seq (.reg [o 167 (.mv (.t 11)), o 8 (.mv (.t 167)), o 9 (.mv (.k (.bool false)))]) .ret)))))))))))) 168 4 [.t 8, .t 9]
theorem l95 : compFunc Try.prog 95 = some L95 := by kernel_rfl
def L96 : XFunc := .mk (.seq (.reg [o 2 (.mv (.k (.int .i64 (.ofNat 0))))]) (.seq (.seq (.reg [o 3 (.mv (.t 0)), o 4 (.bin .geq (.t 3) (.k (.int .u32 (.ofNat 65536))))]) (.cond (.t 4) (.seq (.reg [o 5 (.mv (.t 0)), o 6 (.bin .shr (.t 5) (.k (.int .u64 (.ofNat 16)))), o 0 (.mv (.t 6))]) (.reg [o 2 (.mv (.k (.int .i64 (.ofNat 16))))])) .skip)) (.seq (.seq (.reg [o 7 (.mv (.t 0)), o 8 (.bin .geq (.t 7) (.k (.int .u32 (.ofNat 256))))]) (.cond (.t 8) (.seq (.reg [o 9 (.mv (.t 0)), o 10 (.bin .shr (.t 9) (.k (.int .u64 (.ofNat 8)))), o 0 (.mv (.t 10))]) (.reg [o 11 (.mv (.t 2)), o 12 (.bin .add (.t 11) (.k (.int .i64 (.ofNat 8)))), o 2 (.mv (.t 12))])) .skip)) (.seq (.reg [o 13 (.mv (.t 2)), o 14 (.mv (.t 0)), o 15 (.conv .u8 (.t 14)), o 16 (.sidx (.k (.str [UInt8.ofNat 0, UInt8.ofNat 1, UInt8.ofNat 2, UInt8.ofNat 2, UInt8.ofNat 3, UInt8.ofNat 3, UInt8.ofNat 3, UInt8.ofNat 3, UInt8.ofNat 4, UInt8.ofNat 4, UInt8.ofNat 4, UInt8.ofNat 4, UInt8.ofNat 4, UInt8.ofNat 4, UInt8.ofNat 4, UInt8.ofNat 4, UInt8.ofNat 5, UInt8.ofNat 5, UInt8.ofNat 5, UInt8.ofNat 5, UInt8.ofNat 5, UInt8.ofNat 5, UInt8.ofNat 5, UInt8.ofNat 5, UInt8.ofNat 5, UInt8.ofNat 5, UInt8.ofNat 5, UInt8.ofNat 5, UInt8.ofNat 5, UInt8.ofNat 5, UInt8.ofNat 5, UInt8.ofNat 5, UInt8.ofNat 6, UInt8.ofNat 6, UInt8.ofNat 6, UInt8.ofNat 6, UInt8.ofNat 6, UInt8.ofNat 6, UInt8.ofNat 6, UInt8.ofNat 6, UInt8.ofNat 6, UInt8.ofNat 6, UInt8.ofNat 6, UInt8.ofNat 6, UInt8.ofNat 6, UInt8.ofNat 6, UInt8.ofNat 6, UInt8.ofNat 6, UInt8.ofNat 6, UInt8.ofNat 6, UInt8.ofNat 6, UInt8.ofNat 6, UInt8.ofNat 6, UInt8.ofNat 6, UInt8.ofNat 6, UInt8.ofNat 6, UInt8.ofNat 6, UInt8.ofNat 6, UInt8.ofNat 6, UInt8.ofNat 6, UInt8.ofNat 6, UInt8.ofNat 6, UInt8.ofNat 6, UInt8.ofNat 6, UInt8.ofNat 7, UInt8.ofNat 7, UInt8.ofNat 7, UInt8.ofNat 7, UInt8.ofNat 7, UInt8.ofNat 7, UInt8.ofNat 7, UInt8.ofNat 7, UInt8.ofNat 7, UInt8.ofNat 7, UInt8.ofNat 7, UInt8.ofNat 7, UInt8.ofNat 7, UInt8.ofNat 7, UInt8.ofNat 7, UInt8.ofNat 7, UInt8.ofNat 7, UInt8.ofNat 7, UInt8.ofNat 7, UInt8.ofNat 7, UInt8.ofNat 7, UInt8.ofNat 7, UInt8.ofNat 7, UInt8.ofNat 7, UInt8.ofNat 7, UInt8.ofNat 7, UInt8.ofNat 7, UInt8.ofNat 7, UInt8.ofNat 7, UInt8.ofNat 7, UInt8.ofNat 7, UInt8.ofNat 7, UInt8.ofNat 7, UInt8.ofNat 7, UInt8.ofNat 7, UInt8.ofNat 7, UInt8.ofNat 7, UInt8.ofNat 7, UInt8.ofNat 7, UInt8.ofNat 7, UInt8.ofNat 7, UInt8.ofNat 7, UInt8.ofNat 7, UInt8.ofNat 7, UInt8.ofNat 7, UInt8.ofNat 7, UInt8.ofNat 7, UInt8.ofNat 7, UInt8.ofNat 7, UInt8.ofNat 7, UInt8.ofNat 7, UInt8.ofNat 7, UInt8.ofNat 7, UInt8.ofNat 7, UInt8.ofNat 7, UInt8.ofNat 7, UInt8.ofNat 7, UInt8.ofNat 7, UInt8.ofNat 7, UInt8.ofNat 7, UInt8.ofNat 7, UInt8.ofNat 7, UInt8.ofNat 7, UInt8.ofNat 7, UInt8.ofNat 8, UInt8.ofNat 8, UInt8.ofNat 8, UInt8.ofNat 8, UInt8.ofNat 8, UInt8.ofNat 8, UInt8.ofNat 8, UInt8.ofNat 8, UInt8.ofNat 8, UInt8.ofNat 8, UInt8.ofNat 8, UInt8.ofNat 8, UInt8.ofNat 8, UInt8.ofNat 8, UInt8.ofNat 8, UInt8.ofNat 8, UInt8.ofNat 8, UInt8.ofNat 8, UInt8.ofNat 8, UInt8.ofNat 8, UInt8.ofNat 8, UInt8.ofNat 8, UInt8.ofNat 8, UInt8.ofNat 8, UInt8.ofNat 8, UInt8.ofNat 8, UInt8.ofNat 8, UInt8.ofNat 8, UInt8.ofNat 8, UInt8.ofNat 8, UInt8.ofNat 8, UInt8.ofNat 8, UInt8.ofNat 8, UInt8.ofNat 8, UInt8.ofNat 8, UInt8.ofNat 8, UInt8.ofNat 8, UInt8.ofNat 8, UInt8.ofNat 8, UInt8.ofNat 8, UInt8.ofNat 8, UInt8.ofNat 8, UInt8.ofNat 8, UInt8.ofNat 8, UInt8.ofNat 8, UInt8.ofNat 8, UInt8.ofNat 8, UInt8.ofNat 8, UInt8.ofNat 8, UInt8.ofNat 8, UInt8.ofNat 8, UInt8.ofNat 8, UInt8.ofNat 8, UInt8.ofNat 8, UInt8.ofNat 8, UInt8.ofNat 8, UInt8.ofNat 8, UInt8.ofNat 8, UInt8.ofNat 8, UInt8.ofNat 8, UInt8.ofNat 8, UInt8.ofNat 8, UInt8.ofNat 8, UInt8.ofNat 8, UInt8.ofNat 8, UInt8.ofNat 8, UInt8.ofNat 8, UInt8.ofNat 8, UInt8.ofNat 8, UInt8.ofNat 8, UInt8.ofNat 8, UInt8.ofNat 8, UInt8.ofNat 8, UInt8.ofNat 8, UInt8.ofNat 8, UInt8.ofNat 8, UInt8.ofNat 8, UInt8.ofNat 8, UInt8.ofNat 8, UInt8.ofNat 8, UInt8.ofNat 8, UInt8.ofNat 8, UInt8.ofNat 8, UInt8.ofNat 8, UInt8.ofNat 8, UInt8.ofNat 8, UInt8.ofNat 8, UInt8.ofNat 8, UInt8.ofNat 8, UInt8.ofNat 8, UInt8.ofNat 8, UInt8.ofNat 8, UInt8.ofNat 8, UInt8.ofNat 8, UInt8.ofNat 8, UInt8.ofNat 8, UInt8.ofNat 8, UInt8.ofNat 8, UInt8.ofNat 8, UInt8.ofNat 8, UInt8.ofNat 8, UInt8.ofNat 8, UInt8.ofNat 8, UInt8.ofNat 8, UInt8.ofNat 8, UInt8.ofNat 8, UInt8.ofNat 8, UInt8.ofNat 8, UInt8.ofNat 8, UInt8.ofNat 8, UInt8.ofNat 8, UInt8.ofNat 8, UInt8.ofNat 8, UInt8.ofNat 8, UInt8.ofNat 8, UInt8.ofNat 8, UInt8.ofNat 8, UInt8.ofNat 8, UInt8.ofNat 8, UInt8.ofNat 8, UInt8.ofNat 8, UInt8.ofNat 8, UInt8.ofNat 8, UInt8.ofNat 8, UInt8.ofNat 8, UInt8.ofNat 8, UInt8.ofNat 8, UInt8.ofNat 8])) (.t 15)), o 17 (.conv .i64 (.t 16)), o 18 (.bin .add (.t 13) (.t 17)), o 2 (.mv (.t 18))]) .ret)))) 19 1 [.t 2]
theorem l96 : compFunc Try.prog 96 = some L96 := by kernel_rfl
def L97 : XFunc := .mk (.seq (.reg [o 2 (.mv (.k (.int .i64 (.ofNat 0))))]) (.seq (.seq (.reg [o 3 (.mv (.t 0)), o 4 (.bin .geq (.t 3) (.k (.int .u64 (.ofNat 4294967296))))]) (.cond (.t 4) (.seq (.reg [o 5 (.mv (.t 0)), o 6 (.bin .shr (.t 5) (.k (.int .u64 (.ofNat 32)))), o 0 (.mv (.t 6))]) (.reg [o 2 (.mv (.k (.int .i64 (.ofNat 32))))])) .skip)) (.seq (.seq (.reg [o 7 (.mv (.t 0)), o 8 (.bin .geq (.t 7) (.k (.int .u64 (.ofNat 65536))))]) (.cond (.t 8) (.seq (.reg [o 9 (.mv (.t 0)), o 10 (.bin .shr (.t 9) (.k (.int .u64 (.ofNat 16)))), o 0 (.mv (.t 10))]) (.reg [o 11 (.mv (.t 2)), o 12 (.bin .add (.t 11) (.k (.int .i64 (.ofNat 16)))), o 2 (.mv (.t 12))])) .skip)) (.seq (.seq (.reg [o 13 (.mv (.t 0)), o 14 (.bin .geq (.t 13) (.k (.int .u64 (.ofNat 256))))]) (.cond (.t 14) (.seq (.reg [o 15 (.mv (.t 0)), o 16 (.bin .shr (.t 15) (.k (.int .u64 (.ofNat 8)))), o 0 (.mv (.t 16))]) (.reg [o 17 (.mv (.t 2)), o 18 (.bin .add (.t 17) (.k (.int .i64 (.ofNat 8)))), o 2 (.mv (.t 18))])) .skip)) (.seq (.reg [o 19 (.mv (.t 2)), o 20 (.mv (.t 0)), o 21 (.conv .u8 (.t 20)), o 22 (.sidx (.k (.str [UInt8.ofNat 0, UInt8.ofNat 1, UInt8.ofNat 2, UInt8.ofNat 2, UInt8.ofNat 3, UInt8.ofNat 3, UInt8.ofNat 3, UInt8.ofNat 3, UInt8.ofNat 4, UInt8.ofNat 4, UInt8.ofNat 4, UInt8.ofNat 4, UInt8.ofNat 4, UInt8.ofNat 4, UInt8.ofNat 4, UInt8.ofNat 4, UInt8.ofNat 5, UInt8.ofNat 5, UInt8.ofNat 5, UInt8.ofNat 5, UInt8.ofNat 5, UInt8.ofNat 5, UInt8.ofNat 5, UInt8.ofNat 5, UInt8.ofNat 5, UInt8.ofNat 5, UInt8.ofNat 5, UInt8.ofNat 5, UInt8.ofNat 5, UInt8.ofNat 5, UInt8.ofNat 5, UInt8.ofNat 5, UInt8.ofNat 6, UInt8.ofNat 6, UInt8.ofNat 6, UInt8.ofNat 6, UInt8.ofNat 6, UInt8.ofNat 6, UInt8.ofNat 6, UInt8.ofNat 6, UInt8.ofNat 6, UInt8.ofNat 6, UInt8.ofNat 6, UInt8.ofNat 6, UInt8.ofNat 6, UInt8.ofNat 6, UInt8.ofNat 6, UInt8.ofNat 6, UInt8.ofNat 6, UInt8.ofNat 6, UInt8.ofNat 6, UInt8.ofNat 6, UInt8.ofNat 6, UInt8.ofNat 6, UInt8.ofNat 6, UInt8.ofNat 6, UInt8.ofNat 6, UInt8.ofNat 6, UInt8.ofNat 6, UInt8.ofNat 6, UInt8.ofNat 6, UInt8.ofNat 6, UInt8.ofNat 6, UInt8.ofNat 6, UInt8.ofNat 7, UInt8.ofNat 7, UInt8.ofNat 7, UInt8.ofNat 7, UInt8.ofNat 7, UInt8.ofNat 7, UInt8.ofNat 7, UInt8.ofNat 7, UInt8.ofNat 7, UInt8.ofNat 7, UInt8.ofNat 7, UInt8.ofNat 7, UInt8.ofNat 7, UInt8.ofNat 7, UInt8.ofNat 7, UInt8.ofNat 7, UInt8.ofNat 7, UInt8.ofNat 7, UInt8.ofNat 7, UInt8.ofNat 7, UInt8.ofNat 7, UInt8.ofNat 7, UInt8.ofNat 7, UInt8.ofNat 7, UInt8.ofNat 7, UInt8.ofNat 7, UInt8.ofNat 7, UInt8.ofNat 7, UInt8.ofNat 7, UInt8.ofNat 7, UInt8.ofNat 7, UInt8.ofNat 7, UInt8.ofNat 7, UInt8.ofNat 7, UInt8.ofNat 7, UInt8.ofNat 7, UInt8.ofNat 7, UInt8.ofNat 7, UInt8.ofNat 7, UInt8.ofNat 7, UInt8.ofNat 7, UInt8.ofNat 7, UInt8.ofNat 7, UInt8.ofNat 7, UInt8.ofNat 7, UInt8.ofNat 7, UInt8.ofNat 7, UInt8.ofNat 7, UInt8.ofNat 7, UInt8.ofNat 7, UInt8.ofNat 7, UInt8.ofNat 7, UInt8.ofNat 7, UInt8.ofNat 7, UInt8.ofNat 7, UInt8.ofNat 7, UInt8.ofNat 7, UInt8.ofNat 7, UInt8.ofNat 7, UInt8.ofNat 7, UInt8.ofNat 7, UInt8.ofNat 7, UInt8.ofNat 7, UInt8.ofNat 7, UInt8.ofNat 8, UInt8.ofNat 8, UInt8.ofNat 8, UInt8.ofNat 8, UInt8.ofNat 8, UInt8.ofNat 8, UInt8.ofNat 8, UInt8.ofNat 8, UInt8.ofNat 8, UInt8.ofNat 8, UInt8.ofNat 8, UInt8.ofNat 8, UInt8.ofNat 8, UInt8.ofNat 8, UInt8.ofNat 8, UInt8.ofNat 8, UInt8.ofNat 8, UInt8.ofNat 8, UInt8.ofNat 8, UInt8.ofNat 8, UInt8.ofNat 8, UInt8.ofNat 8, UInt8.ofNat 8, UInt8.ofNat 8, UInt8.ofNat 8, UInt8.ofNat 8, UInt8.ofNat 8, UInt8.ofNat 8, UInt8.ofNat 8, UInt8.ofNat 8, UInt8.ofNat 8, UInt8.ofNat 8, UInt8.ofNat 8, UInt8.ofNat 8, UInt8.ofNat 8, UInt8.ofNat 8, UInt8.ofNat 8, UInt8.ofNat 8, UInt8.ofNat 8, UInt8.ofNat 8, UInt8.ofNat 8, UInt8.ofNat 8, UInt8.ofNat 8, UInt8.ofNat 8, UInt8.ofNat 8, UInt8.ofNat 8, UInt8.ofNat 8, UInt8.ofNat 8, UInt8.ofNat 8, UInt8.ofNat 8, UInt8.ofNat 8, UInt8.ofNat 8, UInt8.ofNat 8, UInt8.ofNat 8, UInt8.ofNat 8, UInt8.ofNat 8, UInt8.ofNat 8, UInt8.ofNat 8, UInt8.ofNat 8, UInt8.ofNat 8, UInt8.ofNat 8, UInt8.ofNat 8, UInt8.ofNat 8, UInt8.ofNat 8, UInt8.ofNat 8, UInt8.ofNat 8, UInt8.ofNat 8, UInt8.ofNat 8, UInt8.ofNat 8, UInt8.ofNat 8, UInt8.ofNat 8, UInt8.ofNat 8, UInt8.ofNat 8, UInt8.ofNat 8, UInt8.ofNat 8, UInt8.ofNat 8, UInt8.ofNat 8, UInt8.ofNat 8, UInt8.ofNat 8, UInt8.ofNat 8, UInt8.ofNat 8, UInt8.ofNat 8, UInt8.ofNat 8, UInt8.ofNat 8, UInt8.ofNat 8, UInt8.ofNat 8, UInt8.ofNat 8, UInt8.ofNat 8, UInt8.ofNat 8, UInt8.ofNat 8, UInt8.ofNat 8, UInt8.ofNat 8, UInt8.ofNat 8, UInt8.ofNat 8, UInt8.ofNat 8, UInt8.ofNat 8, UInt8.ofNat 8, UInt8.ofNat 8, UInt8.ofNat 8, UInt8.ofNat 8, UInt8.ofNat 8, UInt8.ofNat 8, UInt8.ofNat 8, UInt8.ofNat 8, UInt8.ofNat 8, UInt8.ofNat 8, UInt8.ofNat 8, UInt8.ofNat 8, UInt8.ofNat 8, UInt8.ofNat 8, UInt8.ofNat 8, UInt8.ofNat 8, UInt8.ofNat 8, UInt8.ofNat 8, UInt8.ofNat 8, UInt8.ofNat 8, UInt8.ofNat 8, UInt8.ofNat 8, UInt8.ofNat 8, UInt8.ofNat 8, UInt8.ofNat 8, UInt8.ofNat 8, UInt8.ofNat 8, UInt8.ofNat 8, UInt8.ofNat 8, UInt8.ofNat 8, UInt8.ofNat 8, UInt8.ofNat 8])) (.t 21)), o 23 (.conv .i64 (.t 22)), o 24 (.bin .add (.t 19) (.t 23)), o 2 (.mv (.t 24))]) .ret))))) 25 1 [.t 2]
theorem l97 : compFunc Try.prog 97 = some L97 := by kernel_rfl
def L98 : XFunc := .mk (.seq (.reg [o 10 (.mv (.t 1)), o 8 (.mv (.t 10))]) (.block 0 (.loop (.block 1 (.seq (.reg [o 11 (.mv (.t 8)), o 12 (.bin .mul (.k (.int .i64 (.ofNat 2))) (.t 11)), o 13 (.bin .add (.t 12) (.k (.int .i64 (.ofNat 1)))), o 9 (.mv (.t 13))]) (.seq (.seq (.reg [o 14 (.mv (.t 9)), o 15 (.mv (.t 2)), o 16 (.bin .geq (.t 14) (.t 15))]) (.cond (.t 16) (.exit 0) .skip)) (.seq (.seq (.regd [o 17 (.mv (.t 9)), o 18 (.bin .add (.t 17) (.k (.int .i64 (.ofNat 1)))), o 19 (.mv (.t 2)), o 20 (.bin .lss (.t 18) (.t 19)), o 21 (.mv (.t 20)), og 22 (.mv (.t 0)) 21 true, og 23 (.mv (.t 3)) 21 true, og 24 (.mv (.t 9)) 21 true, og 25 (.bin .add (.t 23) (.t 24)) 21 true, og 26 (.iaddr 1 (.t 22) (.t 25)) 21 true, og 27 (.load none (.t 26)) 21 true, og 28 (.mv (.t 0)) 21 true, og 29 (.mv (.t 3)) 21 true, og 30 (.mv (.t 9)) 21 true, og 31 (.bin .add (.t 29) (.t 30)) 21 true, og 32 (.bin .add (.t 31) (.k (.int .i64 (.ofNat 1)))) 21 true, og 33 (.iaddr 1 (.t 28) (.t 32)) 21 true, og 34 (.load none (.t 33)) 21 true, og 35 (.call (.k (.fn 93 [])) [.t 27, .t 34]) 21 true, o 36 (.pick (.t 21) (.t 35) (.k (.bool false)))] [] []) (.cond (.t 36) (.reg [o 37 (.mv (.t 9)), o 38 (.bin .add (.t 37) (.k (.int .i64 (.ofNat 1)))), o 9 (.mv (.t 38))]) .skip)) (.seq (.seq (.regd [o 39 (.mv (.t 0)), o 40 (.mv (.t 3)), o 41 (.mv (.t 8)), o 42 (.bin .add (.t 40) (.t 41)), o 43 (.iaddr 1 (.t 39) (.t 42)), o 44 (.load none (.t 43)), o 45 (.mv (.t 0)), o 46 (.mv (.t 3)), o 47 (.mv (.t 9)), o 48 (.bin .add (.t 46) (.t 47)), o 49 (.iaddr 1 (.t 45) (.t 48)), o 50 (.load none (.t 49)), o 51 (.call (.k (.fn 93 [])) [.t 44, .t 50]), o 52 (.un .not (.t 51))] [] []) (.cond (.t 52) .ret .skip)) (.seq (.regd [o 53 (.mv (.t 0)), o 54 (.mv (.t 3)), o 55 (.mv (.t 8)), o 56 (.bin .add (.t 54) (.t 55)), o 57 (.mv (.t 0)), o 58 (.mv (.t 3)), o 59 (.mv (.t 9)), o 60 (.bin .add (.t 58) (.t 59)), o 61 (.mv (.t 0)), o 62 (.mv (.t 3)), o 63 (.mv (.t 9)), o 64 (.bin .add (.t 62) (.t 63)), o 65 (.iaddr 1 (.t 61) (.t 64)), o 66 (.load none (.t 65)), o 67 (.mv (.t 0)), o 68 (.mv (.t 3)), o 69 (.mv (.t 8)), o 70 (.bin .add (.t 68) (.t 69)), o 71 (.iaddr 1 (.t 67) (.t 70)), o 72 (.load none (.t 71)), o 73 (.iaddr 1 (.t 53) (.t 56)), .mk none (.store 1 (.t 73) (.t 66)) none, o 74 (.iaddr 1 (.t 57) (.t 60)), .mk none (.store 1 (.t 74) (.t 72)) none] [] []) (.reg [o 75 (.mv (.t 9)), o 8 (.mv (.t 75))])))))))))) 76 4 []
theorem l98 : compFunc Try.prog 98 = some L98 := by kernel_rfl
def L99 : XFunc := .mk (.seq (.reg [o 2 (.mv (.k (.int .u64 (.ofNat 0))))]) (.seq (.reg [o 3 (.mv (.t 0)), o 4 (.conv .u64 (.t 3)), o 5 (.call (.k (.fn 86 [])) [.t 4]), o 6 (.bin .shl (.k (.int .u64 (.ofNat 1))) (.t 5)), o 2 (.mv (.t 6))]) .ret)) 7 1 [.t 2]
theorem l99 : compFunc Try.prog 99 = some L99 := by kernel_rfl
def L100 : XFunc := .mk (.seq (.reg [o 2 (.mv (.k (.int .u64 (.ofNat 0))))]) (.seq (.regd [o 3 (.mv (.t 0)), o 4 (.nilc (.t 3)), o 5 (.load none (.t 4)), o 6 (.mv (.t 0)), o 7 (.nilc (.t 6)), o 8 (.load none (.t 7)), o 9 (.bin .shl (.t 8) (.k (.int .u64 (.ofNat 13)))), o 10 (.bin .xor (.t 5) (.t 9)), o 11 (.nilc (.t 3)), .mk none (.store 1 (.t 11) (.t 10)) none] [] []) (.seq (.regd [o 12 (.mv (.t 0)), o 13 (.nilc (.t 12)), o 14 (.load none (.t 13)), o 15 (.mv (.t 0)), o 16 (.nilc (.t 15)), o 17 (.load none (.t 16)), o 18 (.bin .shr (.t 17) (.k (.int .u64 (.ofNat 7)))), o 19 (.bin .xor (.t 14) (.t 18)), o 20 (.nilc (.t 12)), .mk none (.store 1 (.t 20) (.t 19)) none] [] []) (.seq (.regd [o 21 (.mv (.t 0)), o 22 (.nilc (.t 21)), o 23 (.load none (.t 22)), o 24 (.mv (.t 0)), o 25 (.nilc (.t 24)), o 26 (.load none (.t 25)), o 27 (.bin .shl (.t 26) (.k (.int .u64 (.ofNat 17)))), o 28 (.bin .xor (.t 23) (.t 27)), o 29 (.nilc (.t 21)), .mk none (.store 1 (.t 29) (.t 28)) none] [] []) (.seq (.reg [o 30 (.mv (.t 0)), o 31 (.nilc (.t 30)), o 32 (.load none (.t 31)), o 2 (.mv (.t 32))]) .ret))))) 33 1 [.t 2]
theorem l100 : compFunc Try.prog 100 = some L100 := by kernel_rfl
def L101 : XFunc := .mk (.seq (.reg [o 6 (.mv (.k (.int .i64 (.ofNat 0))))]) (.seq (.reg [o 7 (.mv (.t 0)), o 8 (.mv (.t 1)), o 9 (.bin .sub (.t 8) (.k (.int .i64 (.ofNat 1)))), o 10 (.mv (.t 1)), o 11 (.mv (.t 1)), o 12 (.bin .add (.t 11) (.k (.int .i64 (.ofNat 1)))), o 13 (.mv (.t 2)), o 14 (.call (.k (.fn 102 [])) [.t 7, .t 9, .t 10, .t 12, .t 13]), o 6 (.mv (.t 14))]) .ret)) 15 3 [.t 6]
theorem l101 : compFunc Try.prog 101 = some L101 := by kernel_rfl
def L102 : XFunc := .mk (.seq (.reg [o 10 (.mv (.k (.int .i64 (.ofNat 0))))]) (.seq (.reg [o 12 (.mv (.t 0)), o 13 (.mv (.t 1)), o 14 (.mv (.t 2)), o 15 (.mv (.t 4)), o 16 (.call (.k (.fn 104 [])) [.t 12, .t 13, .t 14, .t 15]), o 11 (.mv (.t 16)), o 17 (.ext (.t 11) 0), o 18 (.ext (.t 11) 1), o 1 (.mv (.t 17)), o 2 (.mv (.t 18))]) (.seq (.reg [o 20 (.mv (.t 0)), o 21 (.mv (.t 2)), o 22 (.mv (.t 3)), o 23 (.mv (.t 4)), o 24 (.call (.k (.fn 104 [])) [.t 20, .t 21, .t 22, .t 23]), o 19 (.mv (.t 24)), o 25 (.ext (.t 19) 0), o 26 (.ext (.t 19) 1), o 2 (.mv (.t 25)), o 3 (.mv (.t 26))]) (.seq (.reg [o 28 (.mv (.t 0)), o 29 (.mv (.t 1)), o 30 (.mv (.t 2)), o 31 (.mv (.t 4)), o 32 (.call (.k (.fn 104 [])) [.t 28, .t 29, .t 30, .t 31]), o 27 (.mv (.t 32)), o 33 (.ext (.t 27) 0), o 34 (.ext (.t 27) 1), o 1 (.mv (.t 33)), o 2 (.mv (.t 34))]) (.seq (.reg [o 35 (.mv (.t 2)), o 10 (.mv (.t 35))]) .ret))))) 36 5 [.t 10]
theorem l102 : compFunc Try.prog 102 = some L102 := by kernel_rfl
def L103 : XFunc := .mk (.seq (.reg [o 2 (.mv (.k (.bool false)))]) (.seq (.reg [o 3 (.mv (.t 0)), o 4 (.mv (.t 0)), o 5 (.bin .neq (.t 3) (.t 4)), o 2 (.mv (.t 5))]) .ret)) 6 1 [.t 2]
theorem l103 : compFunc Try.prog 103 = some L103 := by kernel_rfl
def L104 : XFunc := .mk (.seq (.reg [o 8 (.mv (.k (.int .i64 (.ofNat 0)))), o 9 (.mv (.k (.int .i64 (.ofNat 0))))]) (.seq (.seq (.regd [o 10 (.mv (.t 0)), o 11 (.mv (.t 2)), o 12 (.iaddr 1 (.t 10) (.t 11)), o 13 (.load none (.t 12)), o 14 (.mv (.t 0)), o 15 (.mv (.t 1)), o 16 (.iaddr 1 (.t 14) (.t 15)), o 17 (.load none (.t 16)), o 18 (.call (.k (.fn 93 [])) [.t 13, .t 17])] [] []) (.cond (.t 18) (.seq (.reg [o 19 (.mv (.t 3)), o 20 (.nilc (.t 19)), o 21 (.load none (.t 20)), o 22 (.bin .add (.t 21) (.k (.int .i64 (.ofNat 1)))), o 23 (.nilc (.t 19)), .mk none (.store 1 (.t 23) (.t 22)) none]) (.seq (.reg [o 24 (.mv (.t 2)), o 25 (.mv (.t 1)), o 8 (.mv (.t 24)), o 9 (.mv (.t 25))]) .ret)) .skip)) (.seq (.reg [o 26 (.mv (.t 1)), o 27 (.mv (.t 2)), o 8 (.mv (.t 26)), o 9 (.mv (.t 27))]) .ret))) 28 4 [.t 8, .t 9]
theorem l104 : compFunc Try.prog 104 = some L104 := by kernel_rfl
def F : Nat → Option XFunc
  | 6 => some L6
  | 17 => some L17
  | 18 => some L18
  | 19 => some L19
  | 21 => some L21
  | 22 => some L22
  | 23 => some L23
  | 24 => some L24
  | 25 => some L25
  | 27 => some L27
  | 32 => some L32
  | 34 => some L34
  | 43 => some L43
  | 44 => some L44
  | 45 => some L45
  | 46 => some L46
  | 47 => some L47
  | 49 => some L49
  | 50 => some L50
  | 51 => some L51
  | 52 => some L52
  | 53 => some L53
  | 54 => some L54
  | 55 => some L55
  | 57 => some L57
  | 58 => some L58
  | 59 => some L59
  | 64 => some L64
  | 65 => some L65
  | 66 => some L66
  | 67 => some L67
  | 68 => some L68
  | 69 => some L69
  | 70 => some L70
  | 71 => some L71
  | 72 => some L72
  | 74 => some L74
  | 75 => some L75
  | 76 => some L76
  | 79 => some L79
  | 80 => some L80
  | 81 => some L81
  | 82 => some L82
  | 83 => some L83
  | 85 => some L85
  | 86 => some L86
  | 87 => some L87
  | 88 => some L88
  | 89 => some L89
  | 90 => some L90
  | 91 => some L91
  | 92 => some L92
  | 93 => some L93
  | 94 => some L94
  | 95 => some L95
  | 96 => some L96
  | 97 => some L97
  | 98 => some L98
  | 99 => some L99
  | 100 => some L100
  | 101 => some L101
  | 102 => some L102
  | 103 => some L103
  | 104 => some L104
  | _ => none
theorem F_ok : ∀ f fn, F f = some fn → compFunc Try.prog f = some fn := by
  intro f fn h
  unfold F at h
  split at h
  · cases h; exact l6
  · cases h; exact l17
  · cases h; exact l18
  · cases h; exact l19
  · cases h; exact l21
  · cases h; exact l22
  · cases h; exact l23
  · cases h; exact l24
  · cases h; exact l25
  · cases h; exact l27
  · cases h; exact l32
  · cases h; exact l34
  · cases h; exact l43
  · cases h; exact l44
  · cases h; exact l45
  · cases h; exact l46
  · cases h; exact l47
  · cases h; exact l49
  · cases h; exact l50
  · cases h; exact l51
  · cases h; exact l52
  · cases h; exact l53
  · cases h; exact l54
  · cases h; exact l55
  · cases h; exact l57
  · cases h; exact l58
  · cases h; exact l59
  · cases h; exact l64
  · cases h; exact l65
  · cases h; exact l66
  · cases h; exact l67
  · cases h; exact l68
  · cases h; exact l69
  · cases h; exact l70
  · cases h; exact l71
  · cases h; exact l72
  · cases h; exact l74
  · cases h; exact l75
  · cases h; exact l76
  · cases h; exact l79
  · cases h; exact l80
  · cases h; exact l81
  · cases h; exact l82
  · cases h; exact l83
  · cases h; exact l85
  · cases h; exact l86
  · cases h; exact l87
  · cases h; exact l88
  · cases h; exact l89
  · cases h; exact l90
  · cases h; exact l91
  · cases h; exact l92
  · cases h; exact l93
  · cases h; exact l94
  · cases h; exact l95
  · cases h; exact l96
  · cases h; exact l97
  · cases h; exact l98
  · cases h; exact l99
  · cases h; exact l100
  · cases h; exact l101
  · cases h; exact l102
  · cases h; exact l103
  · cases h; exact l104
  · cases h
end Go.Proofs.Ytpbighinamljbaa.PA
namespace Go.Proofs.Ytpbighinamljbaa.PA
open Go Go.Eng Go.Proofs
def Dat (H : AHeap) (i : Nat) (rest : List AV) (opn : Option Nat) (d : Array Int) : Prop := H.get i = some (.cells (d.toList.map (AV.int .u16) ++ rest) opn)
structure SS (H0 : AHeap) (i : Nat) (rest : List AV) (opn : Option Nat) (n : Nat) (H : AHeap) (d : Array Int) : Prop where
  dat : Dat H i rest opn d
  sz : d.size = n
  nx : H0.next ≤ H.next
  fr : ∀ k, k < H0.next → k ≠ i → H.get k = H0.get k
section
variable {cf : CF} {n m : Nat} {H0 H H' : AHeap} {i : Nat} {rest : List AV} {opn : Option Nat} {d : Array Int} {l : KL0} {x y : XO}
theorem SS.up (h : SS H0 i rest opn m H d) (hm : H'.m = H.m) (hn : H.next ≤ H'.next) : SS H0 i rest opn m H' d := by
  have hg : ∀ k, H'.get k = H.get k := fun k => by unfold AHeap.get; rw [hm]
  exact ⟨(hg i).trans h.dat, h.sz, Nat.le_trans h.nx hn, fun k hk hne => (hg k).trans (h.fr k hk hne)⟩
theorem SS.refl (h : Dat H i rest opn d) : SS H i rest opn d.size H d := ⟨h, rfl, Nat.le_refl _, fun _ _ _ => rfl⟩
theorem SS.trans {H1 : AHeap} {e : Array Int} (h : SS H0 i rest opn m H d) (k : SS H i rest opn m H1 e) : SS H0 i rest opn m H1 e :=
  ⟨k.dat, k.sz, Nat.le_trans h.nx k.nx, fun j hj hne => (k.fr j (Nat.lt_of_lt_of_le hj h.nx) hne).trans (h.fr j hj hne)⟩
theorem k_iaS {len c a : Nat} (hx : evK l x = some (.sl i 0 len c)) (hy : evK l y = some (nA a)) (h : a < len) : XV cf l H n (.iaddr 1 x y) = some (.ptr i a, H) := by
  have := k_iaN (cf := cf) (H := H) (n := n) (z := 1) hx hy h
  simpa using this
theorem k_ldS {j : Nat} (hx : evK l x = some (.ptr i j)) (hS : SS H0 i rest opn m H d) (hm : H'.m = H.m) (hj : j < m) : XV cf l H' n (.load none x) = some (.int .u16 d[j]!, H') :=
  k_any (op_loadc (i := i) (opn := opn) (c := d.toList.map (AV.int .u16) ++ rest) hx (by unfold AHeap.get; rw [hm]; exact hS.dat) (by
    have hj : j < d.size := by rw [hS.sz]; exact hj
    rw [List.getElem?_append_left (by simpa using hj), List.getElem?_map, Array.getElem?_toList, Array.getElem?_eq_getElem hj, getElem!_pos d j hj]
    rfl))
theorem WKO.stS {j : Nat} {y' : Int} {a x : XO} {r : List XOper} {R : KL0 → AHeap → Prop} (ha : evK l a = some (.ptr i j)) (hx : evK l x = some (.int .u16 y')) (hS : SS H0 i rest opn m H d) (hm : H'.m = H.m) (hn : H.next ≤ H'.next) (hj : j < m)
    (k : ∀ H1, SS H0 i rest opn m H1 (d.setIfInBounds j y') → H1.next = H'.next → (∀ k, k ≠ i → H1.get k = H'.get k) → WKO cf r (n + 1) l H1 R) : WKO cf (⟨none, .store 1 a x, none⟩ :: r) n l H' R := by
  unfold WKO at k ⊢
  intro tm ht
  have hS := hS.up hm hn
  have hj : j < d.size := by rw [hS.sz]; exact hj
  refine WO.store (ht.ev ha) (ht.ev hx) hS.dat rfl rfl (by simp; omega) (fun H1 h1 h2 h3 => k H1 ⟨?_, by simpa using hS.sz, by rw [h3]; exact hS.nx, fun k hk hne => (h2 k hne).trans (hS.fr k hk hne)⟩ h3 h2 tm ht)
  unfold Dat
  rw [h1]
  congr 2
  have hj' : j < (d.toList.map (AV.int .u16)).length := by simpa using hj
  rw [Array.toList_setIfInBounds, List.map_set]
  simp only [overA, AV.cells, List.length_singleton]
  rw [List.take_append_of_le_length (by omega), List.drop_append_of_le_length (by omega), List.set_eq_take_append_cons_drop, if_pos hj']
  simp
end
def lt6 (x y : Int) : Bool := decide (x < y)
theorem lt6_eq : lt6 = Sort.ltInt := rfl
attribute [irreducible] lt6
def Less (cf : CF) : Prop := ∀ x y H, cf 93 [.int .u16 x, .int .u16 y] H = some (.bool (lt6 x y), H)
theorem ins_stop {a j : Nat} {d : Array Int} (h : j ≤ a ∨ lt6 d[j]! d[j - 1]! = false) : Sort.insInner lt6 a j d = d := by
  cases j with
  | zero => rfl
  | succ j =>
    unfold Sort.insInner
    rw [if_neg]
    simp only [Bool.and_eq_true, decide_eq_true_eq, Nat.add_sub_cancel] at h ⊢
    rintro ⟨h1, h2⟩
    rcases h with h | h
    · omega
    · rw [h] at h2; cases h2
theorem ins_step {a j : Nat} {d : Array Int} (h : a < j) (h' : lt6 d[j]! d[j - 1]! = true) : Sort.insInner lt6 a j d = Sort.insInner lt6 a (j - 1) (Sort.swp d j (j - 1)) := by
  cases j with
  | zero => omega
  | succ j =>
    rw [Sort.insInner, if_pos]
    · rfl
    · simp only [Bool.and_eq_true, decide_eq_true_eq, Nat.add_sub_cancel] at h' ⊢
      exact ⟨h, h'⟩
theorem swp_eq (d : Array Int) (i j : Nat) : (d.setIfInBounds i d[j]!).setIfInBounds j d[i]! = Sort.swp d i j := rfl
set_option maxHeartbeats 400000 in
theorem x87 {cf : CF} {fuel : Nat} {H0 H : AHeap} {i c n : Nat} {rest : List AV} {opn : Option Nat} {d : Array Int} {a b : Nat} (hl : Less cf) (hS : SS H0 i rest opn n H d) (hab : a ≤ b) (hb : b ≤ n) (hsz : n < 1000000000) (hf : n + 2 < fuel) :
    ∃ v H', xfunc cf fuel L87 [.sl i 0 n c, nA a, nA b] H = some (v, H') ∧ v = .tup [] ∧ SS H0 i rest opn n H' (Sort.insertionSort lt6 d a b) := by
  refine xfunc_ofK rfl (by show 3 ≤ 49; omega) ?_
  unfold L87
  dsimp only
  repeat' (first | refine WK.seq ?_ | refine WK.block ?_ | (apply WK.reg; (· exact lnn)) | refine WKO.nil ?_ | ((first | apply WKO.op); (· first | exact k_mv rfl | exact opA); (· rfl)) | refine pN ?_ | fail)
  refine WK.loop (α := Nat × Array Int) (fun p => [(0, .sl i 0 n c), (1, nA a), (2, nA b), (6, nA p.1)]) (fun p H => a + 1 ≤ p.1 ∧ p.1 ≤ b + 1 ∧ Sort.insOuter lt6 a b p.1 p.2 = Sort.insertionSort lt6 d a b ∧ SS H0 i rest opn n H p.2) (fun p => b + 1 - p.1) (a + 1, d) (.cons rfl <| .cons rfl <| .cons rfl <| .cons rfl <| .nil _) ⟨by omega, by omega, rfl, hS.up rfl (by simp only [next_bump] <;> omega)⟩ (by simp only; omega) ?_
  rintro ⟨p, e⟩ H ⟨h1, h2, h3, h4⟩
  dsimp only at h1 h2 h3 h4 ⊢
  repeat' (first | refine WK.seq ?_ | refine WK.skip ?_ | refine WK.exit ?_ | refine WK.block ?_ | (apply WK.reg; (· exact lnn)) | refine WKO.nil ?_ | ((first | apply WKO.op); (· first | exact k_mv rfl | exact opA); (· rfl)) | refine pN ?_ | refine pX ?_ | refine bX ?_ | (apply WK.condD; (· rfl); all_goals intro _) | fail)
  · refine WK.loop (α := Nat × Array Int) (fun q => [(0, .sl i 0 n c), (1, nA a), (2, nA b), (6, nA p), (7, nA q.1)]) (fun q H => q.1 ≤ p ∧ Sort.insInner lt6 a q.1 q.2 = Sort.insInner lt6 a p e ∧ SS H0 i rest opn n H q.2) (fun q => q.1) (p, e) (.cons rfl <| .cons rfl <| .cons rfl <| .cons rfl <| .cons rfl <| .nil _) ⟨by omega, rfl, h4.up rfl (by simp only [next_bump] <;> omega)⟩ (by simp only; omega) ?_
    rintro ⟨q, f⟩ H ⟨g1, g2, g3⟩
    dsimp only at g1 g2 g3 ⊢
    repeat' (first | refine WK.seq ?_ | refine WK.skip ?_ | refine WK.exit ?_ | refine WK.block ?_ | (apply WK.reg; (· exact lnn)) | (apply WK.regC; (· rfl); (· exact lnn); (· decide)) | (apply WK.regd0; (· exact lnn)) | (apply WKO.stS; (· rfl); (· rfl); (· assumption); (· rfl); (· first | omega | (simp only [next_bump]; omega)); (· omega); intro _ _ _ _) | refine WKC.nil ?_ | refine WKO.nil ?_ | ((first | apply WKC.op | apply WKO.op | ((first | apply WKC.gop); (· rfl); (· exact dcd))); (· first | exact k_mv rfl | (apply k_iaS; (· rfl); (· rfl); (· omega)) | (apply k_ldS; (· rfl); (· assumption); (· rfl); (· omega)) | exact k_call rfl rfl (hl _ _ _) | exact opA); (· rfl)) | ((first | apply WKC.gnoT); (· rfl); (· exact dcd)) | ((first | apply WKC.gsp); (· rfl); all_goals ((fail_if_success (refine known ?_ ?_; (· assumption))); intro _)) | refine pN ?_ | refine pX ?_ | refine bN ?_ | refine bX ?_ | (apply WK.condF; (· rfl); (· exact dcd)) | (apply WK.condB; (· rfl); all_goals intro _) | fail)
    · exact ⟨(q - 1, Sort.swp f q (q - 1)), (.cons rfl <| .cons rfl <| .cons rfl <| .cons rfl <| .cons rfl <| .nil _), ⟨by dsimp only; omega, (ins_step (by assumption) (by assumption)).symm.trans g2, (by apply SS.up; (· assumption); (· rfl); (· first | omega | (simp only [next_bump]; omega)))⟩, by dsimp only; omega⟩
    · rw [ins_stop (.inr (by assumption))] at g2
      refine ⟨(p + 1, f), (.cons rfl <| .cons rfl <| .cons rfl <| .cons rfl <| .nil _), ⟨by dsimp only; omega, by dsimp only; omega, ?_, (by apply SS.up; (· assumption); (· rfl); (· first | omega | (simp only [next_bump]; omega)))⟩, by dsimp only; omega⟩
      subst g2
      rw [Sort.insOuter, if_pos (by assumption)] at h3
      exact h3
    · rw [ins_stop (.inl (by omega))] at g2
      refine ⟨(p + 1, f), (.cons rfl <| .cons rfl <| .cons rfl <| .cons rfl <| .nil _), ⟨by dsimp only; omega, by dsimp only; omega, ?_, (by apply SS.up; (· assumption); (· rfl); (· first | omega | (simp only [next_bump]; omega)))⟩, by dsimp only; omega⟩
      subst g2
      rw [Sort.insOuter, if_pos (by assumption)] at h3
      exact h3
  · refine ⟨fun _ => by simp, _, rfl, rfl, ?_⟩
    rw [← h3, Sort.insOuter, if_neg (by assumption)]
    exact (by apply SS.up; (· assumption); (· rfl); (· first | omega | (simp only [next_bump]; omega)))
end Go.Proofs.Ytpbighinamljbaa.PA
namespace Go.Proofs.Ytpbighinamljbaa.PA
open Go Go.Eng Go.Proofs
theorem sift0 {hi first r : Nat} {d : Array Int} (h : 2 * r + 1 ≥ hi) : Sort.siftDown lt6 hi first r d = d := by
  rw [Sort.siftDown, dif_pos h]
theorem sift1 {hi first r : Nat} {d : Array Int} (h : ¬ 2 * r + 1 ≥ hi) (h1 : 2 * r + 1 + 1 < hi) (h2 : lt6 d[first + (2 * r + 1)]! d[first + (2 * r + 1) + 1]! = true) (h3 : lt6 d[first + r]! d[first + (2 * r + 1 + 1)]! = false) : Sort.siftDown lt6 hi first r d = d := by
  rw [Sort.siftDown, dif_neg h, if_pos (by simp [h1, h2]), if_pos (by simp [h3])]
theorem sift2 {hi first r : Nat} {d : Array Int} (h : ¬ 2 * r + 1 ≥ hi) (h1 : 2 * r + 1 + 1 < hi) (h2 : lt6 d[first + (2 * r + 1)]! d[first + (2 * r + 1) + 1]! = true) (h3 : lt6 d[first + r]! d[first + (2 * r + 1 + 1)]! = true) : Sort.siftDown lt6 hi first r d = Sort.siftDown lt6 hi first (2 * r + 1 + 1) (Sort.swp d (first + r) (first + (2 * r + 1 + 1))) := by
  rw [Sort.siftDown, dif_neg h, if_pos (by simp [h1, h2]), if_neg (by simp [h3]), dif_pos h1]
theorem sift3 {hi first r : Nat} {d : Array Int} (h : ¬ 2 * r + 1 ≥ hi) (h1 : ¬ 2 * r + 1 + 1 < hi ∨ lt6 d[first + (2 * r + 1)]! d[first + (2 * r + 1) + 1]! = false) (h3 : lt6 d[first + r]! d[first + (2 * r + 1)]! = false) : Sort.siftDown lt6 hi first r d = d := by
  rw [Sort.siftDown, dif_neg h, if_neg (by rcases h1 with h1 | h1 <;> simp [h1]), if_pos (by simp [h3])]
theorem sift4 {hi first r : Nat} {d : Array Int} (h : ¬ 2 * r + 1 ≥ hi) (h1 : ¬ 2 * r + 1 + 1 < hi ∨ lt6 d[first + (2 * r + 1)]! d[first + (2 * r + 1) + 1]! = false) (h3 : lt6 d[first + r]! d[first + (2 * r + 1)]! = true) : Sort.siftDown lt6 hi first r d = Sort.siftDown lt6 hi first (2 * r + 1) (Sort.swp d (first + r) (first + (2 * r + 1))) := by
  rw [Sort.siftDown, dif_neg h, if_neg (by rcases h1 with h1 | h1 <;> simp [h1]), if_neg (by simp [h3])]
set_option maxHeartbeats 1000000 in
theorem x98 {cf : CF} {fuel : Nat} {H0 H : AHeap} {i c n : Nat} {rest : List AV} {opn : Option Nat} {d : Array Int} {lo hi first : Nat} (hl : Less cf) (hS : SS H0 i rest opn n H d) (hb : first + hi ≤ n) (hlo : lo ≤ n) (hsz : n < 1000000000) (hf : n + 2 < fuel) :
    ∃ v H', xfunc cf fuel L98 [.sl i 0 n c, nA lo, nA hi, nA first] H = some (v, H') ∧ v = .tup [] ∧ SS H0 i rest opn n H' (Sort.siftDown lt6 hi first lo d) := by
  refine xfunc_ofK rfl (by show 4 ≤ 76; omega) ?_
  unfold L98
  dsimp only
  repeat' (first | refine WK.seq ?_ | refine WK.block ?_ | (apply WK.reg; (· exact lnn)) | refine WKO.nil ?_ | ((first | apply WKO.op); (· first | exact k_mv rfl); (· rfl)) | refine pN ?_ | fail)
  refine WK.loop (α := Nat × Array Int) (fun p => [(0, .sl i 0 n c), (2, nA hi), (3, nA first), (8, nA p.1)]) (fun p H => p.1 ≤ n ∧ Sort.siftDown lt6 hi first p.1 p.2 = Sort.siftDown lt6 hi first lo d ∧ SS H0 i rest opn n H p.2) (fun p => n - p.1) (lo, d) (.cons rfl <| .cons rfl <| .cons rfl <| .cons rfl <| .nil _) ⟨hlo, rfl, (by apply SS.up; (· assumption); (· rfl); (· first | omega | (simp only [next_bump]; omega)))⟩ (by simp only; omega) ?_
  rintro ⟨r, e⟩ H ⟨h1, h2, h3⟩
  dsimp only at h1 h2 h3 ⊢
  repeat' (first | refine WK.seq ?_ | refine WK.skip ?_ | refine WK.ret ?_ | refine WK.exit ?_ | refine WK.block ?_ | (apply WK.reg; (· exact lnn)) | (apply WK.regC; (· rfl); (· exact lnn); (· decide)) | (apply WK.regd0; (· exact lnn)) | (apply WKO.stS; (· rfl); (· rfl); (· assumption); (· rfl); (· first | omega | (simp only [next_bump]; omega)); (· omega); intro _ _ _ _) | refine WKC.nil ?_ | refine WKO.nil ?_ | ((first | apply WKC.op | apply WKO.op | ((first | apply WKC.gop); (· rfl); (· exact dcd))); (· first | exact k_mv rfl | (apply k_iaS; (· rfl); (· rfl); (· omega)) | (apply k_ldS; (· rfl); (· assumption); (· rfl); (· omega)) | exact k_call rfl rfl (hl _ _ _) | exact opA); (· rfl)) | ((first | apply WKC.gnoT); (· rfl); (· exact dcd)) | ((first | apply WKC.gsp); (· rfl); all_goals ((fail_if_success (refine known ?_ ?_; (· assumption))); intro _)) | refine pN ?_ | refine pR ?_ | refine pX ?_ | refine bN ?_ | refine bR ?_ | refine bX ?_ | refine bO (by decide) ?_ | (apply WK.condF; (· rfl); (· exact dcd)) | (apply WK.condD; (· rfl); all_goals intro _) | (apply WK.condN; (· rfl); all_goals intro _) | (apply WK.condB; (· rfl); all_goals intro _) | fail)
  · refine ⟨fun _ => by simp, _, rfl, rfl, ?_⟩
    rw [← h2, sift0 (by assumption)]
    exact (by apply SS.up; (· assumption); (· rfl); (· first | omega | (simp only [next_bump]; omega)))
  · refine ⟨fun _ => by simp, _, rfl, rfl, ?_⟩
    rw [← h2, sift1 (by assumption) (by assumption) (by assumption) (by assumption)]
    exact (by apply SS.up; (· assumption); (· rfl); (· first | omega | (simp only [next_bump]; omega)))
  · exact ⟨(_, _), (.cons rfl <| .cons rfl <| .cons rfl <| .cons rfl <| .nil _), ⟨by dsimp only; omega, (sift2 (by assumption) (by assumption) (by assumption) (by assumption)).symm.trans h2, (by apply SS.up; (· assumption); (· rfl); (· first | omega | (simp only [next_bump]; omega)))⟩, by dsimp only; omega⟩
  · refine ⟨fun _ => by simp, _, rfl, rfl, ?_⟩
    rw [← h2, sift3 (by assumption) (.inr (by assumption)) (by assumption)]
    exact (by apply SS.up; (· assumption); (· rfl); (· first | omega | (simp only [next_bump]; omega)))
  · exact ⟨(_, _), (.cons rfl <| .cons rfl <| .cons rfl <| .cons rfl <| .nil _), ⟨by dsimp only; omega, (sift4 (by assumption) (.inr (by assumption)) (by assumption)).symm.trans h2, (by apply SS.up; (· assumption); (· rfl); (· first | omega | (simp only [next_bump]; omega)))⟩, by dsimp only; omega⟩
  · refine ⟨fun _ => by simp, _, rfl, rfl, ?_⟩
    rw [← h2, sift3 (by assumption) (.inl (by assumption)) (by assumption)]
    exact (by apply SS.up; (· assumption); (· rfl); (· first | omega | (simp only [next_bump]; omega)))
  · exact ⟨(_, _), (.cons rfl <| .cons rfl <| .cons rfl <| .cons rfl <| .nil _), ⟨by dsimp only; omega, (sift4 (by assumption) (.inl (by assumption)) (by assumption)).symm.trans h2, (by apply SS.up; (· assumption); (· rfl); (· first | omega | (simp only [next_bump]; omega)))⟩, by dsimp only; omega⟩
theorem rev_step {i j : Nat} {d : Array Int} (h : i < j) : Sort.reverseLoop i j d = Sort.reverseLoop (i + 1) (j - 1) (Sort.swp d i j) := by
  rw [Sort.reverseLoop, if_pos h]
theorem rev_stop {i j : Nat} {d : Array Int} (h : ¬ i < j) : Sort.reverseLoop i j d = d := by
  rw [Sort.reverseLoop, if_neg h]
set_option maxHeartbeats 1000000 in
theorem x91 {cf : CF} {fuel : Nat} {H0 H : AHeap} {i c n : Nat} {rest : List AV} {opn : Option Nat} {d : Array Int} {a b : Nat} (hS : SS H0 i rest opn n H d) (hab : a < b) (hb : b ≤ n) (hsz : n < 1000000000) (hf : n + 2 < fuel) :
    ∃ v H', xfunc cf fuel L91 [.sl i 0 n c, nA a, nA b] H = some (v, H') ∧ v = .tup [] ∧ SS H0 i rest opn n H' (Sort.reverseRange d a b) := by
  refine xfunc_ofK rfl (by show 3 ≤ 32; omega) ?_
  unfold L91
  dsimp only
  repeat' (first | refine WK.seq ?_ | refine WK.block ?_ | (apply WK.reg; (· exact lnn)) | refine WKO.nil ?_ | ((first | apply WKO.op); (· first | exact k_mv rfl | exact opA); (· rfl)) | refine pN ?_ | fail)
  refine WK.loop (α := Nat × Nat × Array Int) (fun p => [(0, .sl i 0 n c), (6, nA p.1), (7, nA p.2.1)]) (fun p H => p.2.1 < n ∧ Sort.reverseLoop p.1 p.2.1 p.2.2 = Sort.reverseRange d a b ∧ SS H0 i rest opn n H p.2.2) (fun p => p.2.1 - p.1) (a, b - 1, d) (.cons rfl <| .cons rfl <| .cons rfl <| .nil _) ⟨by dsimp only; omega, rfl, (by apply SS.up; (· assumption); (· rfl); (· first | omega | (simp only [next_bump]; omega)))⟩ (by simp only; omega) ?_
  rintro ⟨p, q, e⟩ H ⟨h1, h2, h3⟩
  dsimp only at h1 h2 h3 ⊢
  repeat' (first | refine WK.seq ?_ | refine WK.skip ?_ | refine WK.exit ?_ | refine WK.block ?_ | (apply WK.reg; (· exact lnn)) | (apply WK.regd0; (· exact lnn)) | (apply WKO.stS; (· rfl); (· rfl); (· assumption); (· rfl); (· first | omega | (simp only [next_bump]; omega)); (· omega); intro _ _ _ _) | refine WKO.nil ?_ | ((first | apply WKO.op); (· first | exact k_mv rfl | (apply k_iaS; (· rfl); (· rfl); (· omega)) | (apply k_ldS; (· rfl); (· assumption); (· rfl); (· omega)) | exact opA); (· rfl)) | refine pN ?_ | refine pX ?_ | refine bN ?_ | refine bX ?_ | (apply WK.condD; (· rfl); all_goals intro _) | fail)
  · exact ⟨(_, _, _), (.cons rfl <| .cons rfl <| .cons rfl <| .nil _), ⟨by dsimp only; omega, (rev_step (by assumption)).symm.trans h2, (by apply SS.up; (· assumption); (· rfl); (· first | omega | (simp only [next_bump]; omega)))⟩, by dsimp only; omega⟩
  · refine ⟨fun _ => by simp, _, rfl, rfl, ?_⟩
    rw [← h2, rev_stop (by assumption)]
    exact (by apply SS.up; (· assumption); (· rfl); (· first | omega | (simp only [next_bump]; omega)))
def dnA : Nat → AV
  | 0 => .int .i64 (-1)
  | k + 1 => nA k
theorem k_dn1 {cf : CF} {l : KL0} {H : AHeap} {n k : Nat} {x y : XO} (hx : evK l x = some (dnA (k + 1))) (hy : evK l y = some (nA 1)) (hk : k < 1000000000) : XV cf l H n (.bin .sub x y) = some (dnA k, H) :=
  k_bin hx hy (by
    show some (AV.int .i64 (wrapA .i64 ((k : Int) - ((1 : Nat) : Int)))) = _
    rw [wrapI _ (by omega) (by omega)]
    cases k with
    | zero => rfl
    | succ k =>
      show _ = some (AV.int .i64 (k : Int))
      congr 2
      omega)
theorem k_dn0 {cf : CF} {l : KL0} {H : AHeap} {n k : Nat} {x y : XO} (hx : evK l x = some (dnA k)) (hy : evK l y = some (nA 0)) : XV cf l H n (.bin .geq x y) = some (.bool (decide (0 < k)), H) :=
  k_bin hx hy (by
    cases k with
    | zero => rfl
    | succ k =>
      show some (AV.bool (decide ((k : Int) ≥ ((0 : Nat) : Int)))) = _
      simp)
set_option maxHeartbeats 1000000 in
theorem x88 {cf : CF} {fuel : Nat} {H0 H : AHeap} {i c n : Nat} {rest : List AV} {opn : Option Nat} {d : Array Int} {a b : Nat} (hS : SS H0 i rest opn n H d) (hab : a < b) (hb : b ≤ n) (hsz : n < 1000000000) (hf : n + 2 < fuel)
    (h98 : ∀ {H0 H : AHeap} {d : Array Int} {lo hi first : Nat}, SS H0 i rest opn n H d → first + hi ≤ n → lo ≤ n → ∃ H', cf 98 [.sl i 0 n c, nA lo, nA hi, nA first] H = some (.tup [], H') ∧ SS H0 i rest opn n H' (Sort.siftDown lt6 hi first lo d)) :
    ∃ v H', xfunc cf fuel L88 [.sl i 0 n c, nA a, nA b] H = some (v, H') ∧ v = .tup [] ∧ SS H0 i rest opn n H' (Sort.heapSort lt6 d a b) := by
  refine xfunc_ofK rfl (by show 3 ≤ 56; omega) ?_
  unfold L88
  dsimp only
  repeat' (first | refine WK.seq ?_ | refine WK.block ?_ | (apply WK.reg; (· exact lnn)) | refine WKO.nil ?_ | ((first | apply WKO.op); (· first | exact k_mv rfl | exact opA); (· rfl)) | refine pN ?_ | fail)
  refine WK.loop (α := Nat × Array Int) (fun p => [(0, .sl i 0 n c), (6, nA a), (7, nA 0), (8, nA (b - a)), (9, dnA p.1)]) (fun p H => p.1 ≤ n ∧ Sort.heapBuild lt6 (b - a) a p.1 p.2 = Sort.heapBuild lt6 (b - a) a ((b - a - 1) / 2 + 1) d ∧ SS H0 i rest opn n H p.2) (fun p => p.1) ((b - a - 1) / 2 + 1, d) (.cons rfl <| .cons rfl <| .cons rfl <| .cons rfl <| .cons rfl <| .nil _) ⟨by dsimp only; omega, rfl, (by apply SS.up; (· assumption); (· rfl); (· first | omega | (simp only [next_bump]; omega)))⟩ (by simp only; omega) ?_
  rintro ⟨k, e⟩ H ⟨h1, h2, h3⟩
  dsimp only at h1 h2 h3 ⊢
  cases k with
  | succ k =>
    repeat' (first | refine WK.seq ?_ | refine WK.skip ?_ | refine WK.block ?_ | (apply WK.reg; (· exact lnn)) | (refine WKO.callE rfl rfl rfl (h98 (by apply SS.up; (· assumption); (· rfl); (· first | omega | (simp only [next_bump]; omega))) (by omega) (by omega)) ?_; intro _ _) | refine WKO.nil ?_ | ((first | apply WKO.op); (· first | exact k_mv rfl | exact k_dn0 rfl rfl | exact k_dn1 rfl rfl (by omega)); (· rfl)) | refine pN ?_ | refine bN ?_ | (apply WK.condT; (· rfl); (· exact dcd)) | fail)
    exact ⟨(_, _), (.cons rfl <| .cons rfl <| .cons rfl <| .cons rfl <| .cons rfl <| .nil _), ⟨by dsimp only; omega, h2, (by apply SS.up; (· assumption); (· rfl); (· first | omega | (simp only [next_bump]; omega)))⟩, by dsimp only; omega⟩
  | zero =>
    repeat' (first | refine WK.seq ?_ | refine WK.exit ?_ | refine WK.block ?_ | (apply WK.reg; (· exact lnn)) | refine WKO.nil ?_ | ((first | apply WKO.op); (· first | exact k_mv rfl | exact k_dn0 rfl rfl | exact opA); (· rfl)) | refine pN ?_ | refine pX ?_ | refine bX ?_ | (apply WK.condF; (· rfl); (· exact dcd)) | fail)
    refine WK.loop (α := Nat × Array Int) (fun p => [(0, .sl i 0 n c), (6, nA a), (7, nA 0), (10, dnA p.1)]) (fun p H => p.1 ≤ b - a ∧ Sort.heapPop lt6 a p.1 p.2 = Sort.heapSort lt6 d a b ∧ SS H0 i rest opn n H p.2) (fun p => p.1) (b - a - 1 + 1, e) (.cons rfl <| .cons rfl <| .cons rfl <| .cons rfl <| .nil _) ⟨by dsimp only; omega, ?_, (by apply SS.up; (· assumption); (· rfl); (· first | omega | (simp only [next_bump]; omega)))⟩ (by simp only; omega) ?_
    · rw [Sort.heapSort, ← h2, show b - a - 1 + 1 = b - a by omega]
      rfl
    rintro ⟨k, f⟩ H ⟨g1, g2, g3⟩
    dsimp only at g1 g2 g3 ⊢
    cases k with
    | succ k =>
      repeat' (first | refine WK.seq ?_ | refine WK.skip ?_ | refine WK.block ?_ | (apply WK.reg; (· exact lnn)) | (apply WK.regd0; (· exact lnn)) | (refine WKO.callE rfl rfl rfl (h98 (by apply SS.up; (· assumption); (· rfl); (· first | omega | (simp only [next_bump]; omega))) (by omega) (by omega)) ?_; intro _ _) | (apply WKO.stS; (· rfl); (· rfl); (· assumption); (· rfl); (· first | omega | (simp only [next_bump]; omega)); (· omega); intro _ _ _ _) | refine WKO.nil ?_ | ((first | apply WKO.op); (· first | exact k_mv rfl | exact k_dn0 rfl rfl | exact k_dn1 rfl rfl (by omega) | (apply k_iaS; (· rfl); (· rfl); (· omega)) | (apply k_ldS; (· rfl); (· assumption); (· rfl); (· omega)) | exact opA); (· rfl)) | refine pN ?_ | refine bN ?_ | (apply WK.condT; (· rfl); (· exact dcd)) | fail)
      exact ⟨(_, _), (.cons rfl <| .cons rfl <| .cons rfl <| .cons rfl <| .nil _), ⟨by dsimp only; omega, g2, (by apply SS.up; (· assumption); (· rfl); (· first | omega | (simp only [next_bump]; omega)))⟩, by dsimp only; omega⟩
    | zero =>
      repeat' (first | refine WK.seq ?_ | refine WK.exit ?_ | (apply WK.reg; (· exact lnn)) | refine WKO.nil ?_ | ((first | apply WKO.op); (· first | exact k_mv rfl | exact k_dn0 rfl rfl); (· rfl)) | refine pN ?_ | refine pX ?_ | refine bX ?_ | (apply WK.condF; (· rfl); (· exact dcd)) | fail)
      refine ⟨fun _ => by simp, _, rfl, rfl, ?_⟩
      rw [← g2]
      exact (by apply SS.up; (· assumption); (· rfl); (· first | omega | (simp only [next_bump]; omega)))
end Go.Proofs.Ytpbighinamljbaa.PA
namespace Go.Proofs.Ytpbighinamljbaa.PA
open Go Go.Eng Go.Proofs
theorem up_step {p : Int → Bool} {d : Array Int} {j i : Nat} (h : i ≤ j) (hp : p d[i]! = true) : Sort.scanUp p d j i = Sort.scanUp p d j (i + 1) := by
  rw [Sort.scanUp, if_pos (by simp [h, hp])]
theorem up_stop {p : Int → Bool} {d : Array Int} {j i : Nat} (h : ¬ i ≤ j ∨ p d[i]! = false) : Sort.scanUp p d j i = i := by
  rw [Sort.scanUp, if_neg (by rcases h with h | h <;> simp [h])]
theorem dn_step {p : Int → Bool} {d : Array Int} {j i : Nat} (h : i ≤ j) (h1 : 1 ≤ j) (hp : p d[j]! = true) : Sort.scanDown p d i j = Sort.scanDown p d i (j - 1) := by
  cases j with
  | zero => omega
  | succ j => rw [Sort.scanDown, if_pos (by simp [h, hp])]; rfl
theorem dn_stop {p : Int → Bool} {d : Array Int} {j i : Nat} (h : ¬ i ≤ j ∨ p d[j]! = false) : Sort.scanDown p d i j = j := by
  cases j with
  | zero => rfl
  | succ j => rw [Sort.scanDown, if_neg (by rcases h with h | h <;> simp [h])]
theorem parti_eq {d : Array Int} {a b pivot : Nat} {D : Array Int} {i j : Nat} (hD : Sort.swp d a pivot = D) (hi : Sort.scanUp (fun x => lt6 x D[a]!) D (b - 1) (a + 1) = i) (hj : Sort.scanDown (fun x => !lt6 x D[a]!) D i (b - 1) = j) :
    Sort.partition lt6 d a b pivot = if i > j then (j, true, Sort.swp D j a) else ((Sort.partLoop lt6 a (i + 1) (j - 1) (Sort.swp D i j)).1, false, Sort.swp (Sort.partLoop lt6 a (i + 1) (j - 1) (Sort.swp D i j)).2 (Sort.partLoop lt6 a (i + 1) (j - 1) (Sort.swp D i j)).1 a) := by
  subst hD hi hj
  rfl
set_option maxHeartbeats 2000000 in
theorem x95 {cf : CF} {fuel : Nat} {H0 H : AHeap} {s c n : Nat} {rest : List AV} {opn : Option Nat} {d : Array Int} {a b pivot : Nat} (hl : Less cf) (hS : SS H0 s rest opn n H d) (hab : a ≤ pivot) (hpb : pivot < b) (hb : b ≤ n) (hsz : n < 1000000000) (hf : n + 2 < fuel) :
    ∃ v H', xfunc cf fuel L95 [.sl s 0 n c, nA a, nA b, nA pivot] H = some (v, H') ∧ v = .tup [nA (Sort.partition lt6 d a b pivot).1, .bool (Sort.partition lt6 d a b pivot).2.1] ∧ SS H0 s rest opn n H' (Sort.partition lt6 d a b pivot).2.2 := by
  refine xfunc_ofK rfl (by show 4 ≤ 168; omega) ?_
  unfold L95
  dsimp only
  repeat' (first | refine WK.stop1 ?_ | refine WK.seq ?_ | (apply WK.reg; (· exact lnn)) | (apply WK.regd0; (· exact lnn)) | (apply WKO.stS; (· rfl); (· rfl); (· assumption); (· rfl); (· first | omega | (simp only [next_bump]; omega)); (· omega); intro _ _ _ _) | refine WKO.nil ?_ | ((first | apply WKO.op); (· first | exact k_mv rfl | (apply k_iaS; (· rfl); (· rfl); (· omega)) | (apply k_ldS; (· rfl); (· assumption); (· rfl); (· omega)) | exact opA); (· rfl)) | refine pN ?_ | fail)
  obtain ⟨D, hD⟩ : ∃ D, Sort.swp d a pivot = D := ⟨_, rfl⟩
  obtain ⟨I, hI⟩ : ∃ I, Sort.scanUp (fun x => lt6 x D[a]!) D (b - 1) (a + 1) = I := ⟨_, rfl⟩
  obtain ⟨J, hJ⟩ : ∃ J, Sort.scanDown (fun x => !lt6 x D[a]!) D I (b - 1) = J := ⟨_, rfl⟩
  have hP := parti_eq hD hI hJ
  rename_i hs hn _
  rw [swp_eq, hD] at hs
  refine Stop.mk (WK.cut (α := Unit) (fun _ => [(0, .sl s 0 n c), (1, nA a), (10, nA I), (11, nA (b - 1))]) (fun _ H => a + 1 ≤ I ∧ I ≤ b ∧ SS H0 s rest opn n H D) ?_ ?_)
  · repeat' (first | refine WK.block ?_ | fail)
    refine WK.loop (α := Nat) (fun p => [(0, .sl s 0 n c), (1, nA a), (10, nA p), (11, nA (b - 1))]) (fun p H => a + 1 ≤ p ∧ p ≤ b ∧ Sort.scanUp (fun x => lt6 x D[a]!) D (b - 1) p = I ∧ SS H0 s rest opn n H D) (fun p => b - p) (a + 1) (.cons rfl <| .cons rfl <| .cons rfl <| .cons rfl <| .nil _) ⟨by omega, by omega, hI, (by apply SS.up; (· assumption); (· rfl); (· first | omega | (simp only [next_bump]; omega)))⟩ (by omega) ?_
    rintro p H ⟨h1, h2, h3, h4⟩
    repeat' (first | refine WK.seq ?_ | refine WK.skip ?_ | refine WK.exit ?_ | refine WK.block ?_ | (apply WK.reg; (· exact lnn)) | (apply WK.regC; (· rfl); (· exact lnn); (· decide)) | refine WKC.nil ?_ | refine WKO.nil ?_ | ((first | apply WKC.op | apply WKO.op | ((first | apply WKC.gop); (· rfl); (· exact dcd))); (· first | exact k_mv rfl | (apply k_iaS; (· rfl); (· rfl); (· omega)) | (apply k_ldS; (· rfl); (· assumption); (· rfl); (· omega)) | exact k_call rfl rfl (hl _ _ _) | exact opA); (· rfl)) | ((first | apply WKC.gnoT); (· rfl); (· exact dcd)) | ((first | apply WKC.gsp); (· rfl); all_goals ((fail_if_success (refine known ?_ ?_; (· assumption))); intro _)) | refine pN ?_ | refine pX ?_ | refine bN ?_ | refine bX ?_ | (apply WK.condF; (· rfl); (· exact dcd)) | (apply WK.condB; (· rfl); all_goals intro _) | fail)
    · exact ⟨_, (.cons rfl <| .cons rfl <| .cons rfl <| .cons rfl <| .nil _), ⟨by omega, by omega, (up_step (by assumption) (by assumption)).symm.trans h3, (by apply SS.up; (· assumption); (· rfl); (· first | omega | (simp only [next_bump]; omega)))⟩, by omega⟩
    · obtain rfl := (up_stop (.inr (by assumption))).symm.trans h3
      exact ⟨(), (.cons rfl <| .cons rfl <| .cons rfl <| .cons rfl <| .nil _), by omega, by omega, (by apply SS.up; (· assumption); (· rfl); (· first | omega | (simp only [next_bump]; omega)))⟩
    · obtain rfl := (up_stop (.inl (by assumption))).symm.trans h3
      exact ⟨(), (.cons rfl <| .cons rfl <| .cons rfl <| .cons rfl <| .nil _), by omega, by omega, (by apply SS.up; (· assumption); (· rfl); (· first | omega | (simp only [next_bump]; omega)))⟩
  · rintro _ H ⟨i1, i2, h4⟩
    repeat' (first | refine WK.stop1 ?_ | fail)
    refine Stop.mk (WK.cut (α := Unit) (fun _ => [(0, .sl s 0 n c), (1, nA a), (10, nA I), (11, nA J)]) (fun _ H => J < b ∧ I ≤ J + 1 ∧ SS H0 s rest opn n H D) ?_ ?_)
    · repeat' (first | refine WK.block ?_ | fail)
      refine WK.loop (α := Nat) (fun p => [(0, .sl s 0 n c), (1, nA a), (10, nA I), (11, nA p)]) (fun p H => p < b ∧ I ≤ p + 1 ∧ Sort.scanDown (fun x => !lt6 x D[a]!) D I p = J ∧ SS H0 s rest opn n H D) (fun p => p) (b - 1) (.cons rfl <| .cons rfl <| .cons rfl <| .cons rfl <| .nil _) ⟨by omega, by omega, hJ, (by apply SS.up; (· assumption); (· rfl); (· first | omega | (simp only [next_bump]; omega)))⟩ (by omega) ?_
      rintro p H ⟨h1, h2, h3, h4⟩
      repeat' (first | refine WK.seq ?_ | refine WK.skip ?_ | refine WK.exit ?_ | refine WK.block ?_ | (apply WK.reg; (· exact lnn)) | (apply WK.regC; (· rfl); (· exact lnn); (· decide)) | refine WKC.nil ?_ | refine WKO.nil ?_ | ((first | apply WKC.op | apply WKO.op | ((first | apply WKC.gop); (· rfl); (· exact dcd))); (· first | exact k_mv rfl | (apply k_iaS; (· rfl); (· rfl); (· omega)) | (apply k_ldS; (· rfl); (· assumption); (· rfl); (· omega)) | exact k_call rfl rfl (hl _ _ _) | exact opA); (· rfl)) | ((first | apply WKC.gnoT); (· rfl); (· exact dcd)) | ((first | apply WKC.gsp); (· rfl); all_goals ((fail_if_success (refine known ?_ ?_; (· assumption))); intro _)) | refine pN ?_ | refine pX ?_ | refine bN ?_ | refine bX ?_ | (apply WK.condF; (· rfl); (· exact dcd)) | (apply WK.condN; (· rfl); all_goals intro _) | fail)
      · exact ⟨_, (.cons rfl <| .cons rfl <| .cons rfl <| .cons rfl <| .nil _), ⟨by omega, by omega, (dn_step (by assumption) (by omega) (notT (by assumption))).symm.trans h3, (by apply SS.up; (· assumption); (· rfl); (· first | omega | (simp only [next_bump]; omega)))⟩, by omega⟩
      · obtain rfl := (dn_stop (.inr (notF (by assumption)))).symm.trans h3
        exact ⟨(), (.cons rfl <| .cons rfl <| .cons rfl <| .cons rfl <| .nil _), by omega, by omega, (by apply SS.up; (· assumption); (· rfl); (· first | omega | (simp only [next_bump]; omega)))⟩
      · obtain rfl := (dn_stop (.inl (by assumption))).symm.trans h3
        exact ⟨(), (.cons rfl <| .cons rfl <| .cons rfl <| .cons rfl <| .nil _), by omega, by omega, (by apply SS.up; (· assumption); (· rfl); (· first | omega | (simp only [next_bump]; omega)))⟩
    · rintro _ H ⟨j1, j2, h4⟩
      repeat' (first | refine WK.stop1 ?_ | refine WK.seq ?_ | refine WK.skip ?_ | refine WK.ret ?_ | (apply WK.reg; (· exact lnn)) | (apply WK.regd0; (· exact lnn)) | (apply WKO.stS; (· rfl); (· rfl); (· assumption); (· rfl); (· first | omega | (simp only [next_bump]; omega)); (· omega); intro _ _ _ _) | refine WKO.nil ?_ | ((first | apply WKO.op); (· first | exact k_mv rfl | (apply k_iaS; (· rfl); (· rfl); (· omega)) | (apply k_ldS; (· rfl); (· assumption); (· rfl); (· omega)) | exact opA); (· rfl)) | refine pN ?_ | refine pR ?_ | (apply WK.condD; (· rfl); all_goals intro _) | fail)
      · refine ⟨fun _ => by simp, _, rfl, ?_, ?_⟩
        · rw [hP, if_pos (by assumption)]; rfl
        · rw [hP, if_pos (by assumption)]; exact (by apply SS.up; (· assumption); (· rfl); (· first | omega | (simp only [next_bump]; omega)))
      rw [if_neg (by assumption)] at hP
      obtain ⟨D2, hD2⟩ : ∃ D2, Sort.swp D I J = D2 := ⟨_, rfl⟩
      rename_i hs2 hn2 _
      rw [swp_eq, hD2] at hs2
      rw [hD2] at hP
      refine Stop.mk (WK.cut (α := Nat × Array Int) (fun p => [(0, .sl s 0 n c), (1, nA a), (11, nA p.1)]) (fun p H => p.1 < n ∧ Sort.partLoop lt6 a (I + 1) (J - 1) D2 = p ∧ SS H0 s rest opn n H p.2) ?_ ?_)
      · repeat' (first | refine WK.block ?_ | fail)
        refine WK.loop (α := Nat × Nat × Array Int) (fun p => [(0, .sl s 0 n c), (1, nA a), (10, nA p.1), (11, nA p.2.1)]) (fun p H => a + 1 ≤ p.1 ∧ p.1 ≤ b ∧ p.2.1 < b ∧ p.1 ≤ p.2.1 + 2 ∧ Sort.partLoop lt6 a p.1 p.2.1 p.2.2 = Sort.partLoop lt6 a (I + 1) (J - 1) D2 ∧ SS H0 s rest opn n H p.2.2) (fun p => p.2.1 + 1 - p.1) (I + 1, J - 1, D2) (.cons rfl <| .cons rfl <| .cons rfl <| .cons rfl <| .nil _) ⟨by dsimp only; omega, by dsimp only; omega, by dsimp only; omega, by dsimp only; omega, rfl, (by apply SS.up; (· assumption); (· rfl); (· first | omega | (simp only [next_bump]; omega)))⟩ (by dsimp only; omega) ?_
        rintro ⟨x, y, e⟩ H ⟨h1, h2, h3, h4, h5, h6⟩
        dsimp only at h1 h2 h3 h4 h5 h6 ⊢
        rw [Sort.partLoop_eq] at h5
        obtain ⟨X, hX⟩ : ∃ X, Sort.scanUp (fun x => lt6 x e[a]!) e y x = X := ⟨_, rfl⟩
        obtain ⟨Y, hY⟩ : ∃ Y, Sort.scanDown (fun x => !lt6 x e[a]!) e X y = Y := ⟨_, rfl⟩
        rw [hX, hY] at h5
        repeat' (first | refine WK.stop1 ?_ | refine WK.block ?_ | fail)
        refine Stop.mk (WK.cut (α := Unit) (fun _ => [(0, .sl s 0 n c), (1, nA a), (10, nA X), (11, nA y)]) (fun _ H => x ≤ X ∧ X ≤ y + 2 ∧ SS H0 s rest opn n H e) ?_ ?_)
        · repeat' (first | refine WK.block ?_ | fail)
          refine WK.loop (α := Nat) (fun p => [(0, .sl s 0 n c), (1, nA a), (10, nA p), (11, nA y)]) (fun p H => x ≤ p ∧ p ≤ y + 2 ∧ Sort.scanUp (fun x => lt6 x e[a]!) e y p = X ∧ SS H0 s rest opn n H e) (fun p => y + 2 - p) x (.cons rfl <| .cons rfl <| .cons rfl <| .cons rfl <| .nil _) ⟨by omega, by omega, hX, (by apply SS.up; (· assumption); (· rfl); (· first | omega | (simp only [next_bump]; omega)))⟩ (by omega) ?_
          rintro p H ⟨g1, g2, g3, g4⟩
          repeat' (first | refine WK.seq ?_ | refine WK.skip ?_ | refine WK.exit ?_ | refine WK.block ?_ | (apply WK.reg; (· exact lnn)) | (apply WK.regC; (· rfl); (· exact lnn); (· decide)) | refine WKC.nil ?_ | refine WKO.nil ?_ | ((first | apply WKC.op | apply WKO.op | ((first | apply WKC.gop); (· rfl); (· exact dcd))); (· first | exact k_mv rfl | (apply k_iaS; (· rfl); (· rfl); (· omega)) | (apply k_ldS; (· rfl); (· assumption); (· rfl); (· omega)) | exact k_call rfl rfl (hl _ _ _) | exact opA); (· rfl)) | ((first | apply WKC.gnoT); (· rfl); (· exact dcd)) | ((first | apply WKC.gsp); (· rfl); all_goals ((fail_if_success (refine known ?_ ?_; (· assumption))); intro _)) | refine pN ?_ | refine pX ?_ | refine bN ?_ | refine bX ?_ | (apply WK.condF; (· rfl); (· exact dcd)) | (apply WK.condB; (· rfl); all_goals intro _) | fail)
          · exact ⟨_, (.cons rfl <| .cons rfl <| .cons rfl <| .cons rfl <| .nil _), ⟨by omega, by omega, (up_step (by assumption) (by assumption)).symm.trans g3, (by apply SS.up; (· assumption); (· rfl); (· first | omega | (simp only [next_bump]; omega)))⟩, by omega⟩
          · obtain rfl := (up_stop (.inr (by assumption))).symm.trans g3
            exact ⟨(), (.cons rfl <| .cons rfl <| .cons rfl <| .cons rfl <| .nil _), by omega, by omega, (by apply SS.up; (· assumption); (· rfl); (· first | omega | (simp only [next_bump]; omega)))⟩
          · obtain rfl := (up_stop (.inl (by assumption))).symm.trans g3
            exact ⟨(), (.cons rfl <| .cons rfl <| .cons rfl <| .cons rfl <| .nil _), by omega, by omega, (by apply SS.up; (· assumption); (· rfl); (· first | omega | (simp only [next_bump]; omega)))⟩
        · rintro _ H ⟨x1, x2, x3⟩
          repeat' (first | refine WK.stop1 ?_ | fail)
          refine Stop.mk (WK.cut (α := Unit) (fun _ => [(0, .sl s 0 n c), (1, nA a), (10, nA X), (11, nA Y)]) (fun _ H => Y ≤ y ∧ X ≤ Y + 2 ∧ SS H0 s rest opn n H e) ?_ ?_)
          · repeat' (first | refine WK.block ?_ | fail)
            refine WK.loop (α := Nat) (fun p => [(0, .sl s 0 n c), (1, nA a), (10, nA X), (11, nA p)]) (fun p H => p ≤ y ∧ X ≤ p + 2 ∧ Sort.scanDown (fun x => !lt6 x e[a]!) e X p = Y ∧ SS H0 s rest opn n H e) (fun p => p) y (.cons rfl <| .cons rfl <| .cons rfl <| .cons rfl <| .nil _) ⟨by omega, by omega, hY, (by apply SS.up; (· assumption); (· rfl); (· first | omega | (simp only [next_bump]; omega)))⟩ (by omega) ?_
            rintro p H ⟨g1, g2, g3, g4⟩
            repeat' (first | refine WK.seq ?_ | refine WK.skip ?_ | refine WK.exit ?_ | refine WK.block ?_ | (apply WK.reg; (· exact lnn)) | (apply WK.regC; (· rfl); (· exact lnn); (· decide)) | refine WKC.nil ?_ | refine WKO.nil ?_ | ((first | apply WKC.op | apply WKO.op | ((first | apply WKC.gop); (· rfl); (· exact dcd))); (· first | exact k_mv rfl | (apply k_iaS; (· rfl); (· rfl); (· omega)) | (apply k_ldS; (· rfl); (· assumption); (· rfl); (· omega)) | exact k_call rfl rfl (hl _ _ _) | exact opA); (· rfl)) | ((first | apply WKC.gnoT); (· rfl); (· exact dcd)) | ((first | apply WKC.gsp); (· rfl); all_goals ((fail_if_success (refine known ?_ ?_; (· assumption))); intro _)) | refine pN ?_ | refine pX ?_ | refine bN ?_ | refine bX ?_ | (apply WK.condF; (· rfl); (· exact dcd)) | (apply WK.condN; (· rfl); all_goals intro _) | fail)
            · exact ⟨_, (.cons rfl <| .cons rfl <| .cons rfl <| .cons rfl <| .nil _), ⟨by omega, by omega, (dn_step (by assumption) (by omega) (notT (by assumption))).symm.trans g3, (by apply SS.up; (· assumption); (· rfl); (· first | omega | (simp only [next_bump]; omega)))⟩, by omega⟩
            · obtain rfl := (dn_stop (.inr (notF (by assumption)))).symm.trans g3
              exact ⟨(), (.cons rfl <| .cons rfl <| .cons rfl <| .cons rfl <| .nil _), by omega, by omega, (by apply SS.up; (· assumption); (· rfl); (· first | omega | (simp only [next_bump]; omega)))⟩
            · obtain rfl := (dn_stop (.inl (by assumption))).symm.trans g3
              exact ⟨(), (.cons rfl <| .cons rfl <| .cons rfl <| .cons rfl <| .nil _), by omega, by omega, (by apply SS.up; (· assumption); (· rfl); (· first | omega | (simp only [next_bump]; omega)))⟩
          · rintro _ H ⟨y1, y2, y3⟩
            repeat' (first | refine WK.seq ?_ | refine WK.skip ?_ | refine WK.exit ?_ | (apply WK.reg; (· exact lnn)) | (apply WK.regd0; (· exact lnn)) | (apply WKO.stS; (· rfl); (· rfl); (· assumption); (· rfl); (· first | omega | (simp only [next_bump]; omega)); (· omega); intro _ _ _ _) | refine WKO.nil ?_ | ((first | apply WKO.op); (· first | exact k_mv rfl | (apply k_iaS; (· rfl); (· rfl); (· omega)) | (apply k_ldS; (· rfl); (· assumption); (· rfl); (· omega)) | exact opA); (· rfl)) | refine pN ?_ | refine pX ?_ | refine bN ?_ | refine bX ?_ | refine bO (by decide) ?_ | (apply WK.condD; (· rfl); all_goals intro _) | fail)
            · rw [if_pos (by assumption)] at h5
              exact ⟨(_, _), (.cons rfl <| .cons rfl <| .cons rfl <| .nil _), by dsimp only; omega, h5.symm, (by apply SS.up; (· assumption); (· rfl); (· first | omega | (simp only [next_bump]; omega)))⟩
            · rw [if_neg (by assumption)] at h5
              exact ⟨(_, _, _), (.cons rfl <| .cons rfl <| .cons rfl <| .cons rfl <| .nil _), ⟨by dsimp only; omega, by dsimp only; omega, by dsimp only; omega, by dsimp only; omega, h5, (by apply SS.up; (· assumption); (· rfl); (· first | omega | (simp only [next_bump]; omega)))⟩, by dsimp only; omega⟩
      · rintro ⟨m, e⟩ H ⟨m1, m2, m3⟩
        dsimp only at m1 m2 m3 ⊢
        repeat' (first | refine WK.seq ?_ | refine WK.ret ?_ | (apply WK.reg; (· exact lnn)) | (apply WK.regd0; (· exact lnn)) | (apply WKO.stS; (· rfl); (· rfl); (· assumption); (· rfl); (· first | omega | (simp only [next_bump]; omega)); (· omega); intro _ _ _ _) | refine WKO.nil ?_ | ((first | apply WKO.op); (· first | exact k_mv rfl | (apply k_iaS; (· rfl); (· rfl); (· omega)) | (apply k_ldS; (· rfl); (· assumption); (· rfl); (· omega))); (· rfl)) | refine pN ?_ | fail)
        refine ⟨fun _ => by simp, _, rfl, ?_, ?_⟩
        · rw [hP, m2]; rfl
        · rw [hP, m2]; exact (by apply SS.up; (· assumption); (· rfl); (· first | omega | (simp only [next_bump]; omega)))
set_option maxHeartbeats 2000000 in
theorem x94 {cf : CF} {fuel : Nat} {H0 H : AHeap} {s c n : Nat} {rest : List AV} {opn : Option Nat} {d : Array Int} {a b pivot : Nat} (hl : Less cf) (hS : SS H0 s rest opn n H d) (hab : a ≤ pivot) (hpb : pivot < b) (hb : b ≤ n) (hsz : n < 1000000000) (hf : n + 2 < fuel) :
    ∃ v H', xfunc cf fuel L94 [.sl s 0 n c, nA a, nA b, nA pivot] H = some (v, H') ∧ v = nA (Sort.partitionEqual lt6 d a b pivot).1 ∧ SS H0 s rest opn n H' (Sort.partitionEqual lt6 d a b pivot).2 ∧ a < (Sort.partitionEqual lt6 d a b pivot).1 ∧ (Sort.partitionEqual lt6 d a b pivot).1 ≤ b := by
  refine xfunc_ofK rfl (by show 4 ≤ 84; omega) ?_
  unfold L94
  dsimp only
  repeat' (first | refine WK.stop1 ?_ | refine WK.seq ?_ | (apply WK.reg; (· exact lnn)) | (apply WK.regd0; (· exact lnn)) | (apply WKO.stS; (· rfl); (· rfl); (· assumption); (· rfl); (· first | omega | (simp only [next_bump]; omega)); (· omega); intro _ _ _ _) | refine WKO.nil ?_ | ((first | apply WKO.op); (· first | exact k_mv rfl | (apply k_iaS; (· rfl); (· rfl); (· omega)) | (apply k_ldS; (· rfl); (· assumption); (· rfl); (· omega)) | exact opA); (· rfl)) | refine pN ?_ | fail)
  obtain ⟨D, hD⟩ : ∃ D, Sort.swp d a pivot = D := ⟨_, rfl⟩
  have hP : Sort.partitionEqual lt6 d a b pivot = Sort.partEqLoop lt6 a (a + 1) (b - 1) D := by rw [← hD]; rfl
  rename_i hs hn _
  rw [swp_eq, hD] at hs
  refine Stop.mk (WK.cut (α := Nat × Array Int) (fun p => [(0, .sl s 0 n c), (1, nA a), (9, nA p.1)]) (fun p H => Sort.partEqLoop lt6 a (a + 1) (b - 1) D = p ∧ SS H0 s rest opn n H p.2 ∧ a < p.1 ∧ p.1 ≤ b) ?_ ?_)
  · repeat' (first | refine WK.block ?_ | fail)
    refine WK.loop (α := Nat × Nat × Array Int) (fun p => [(0, .sl s 0 n c), (1, nA a), (9, nA p.1), (10, nA p.2.1)]) (fun p H => a + 1 ≤ p.1 ∧ p.1 ≤ b ∧ p.2.1 < b ∧ p.1 ≤ p.2.1 + 2 ∧ Sort.partEqLoop lt6 a p.1 p.2.1 p.2.2 = Sort.partEqLoop lt6 a (a + 1) (b - 1) D ∧ SS H0 s rest opn n H p.2.2) (fun p => p.2.1 + 1 - p.1) (a + 1, b - 1, D) (.cons rfl <| .cons rfl <| .cons rfl <| .cons rfl <| .nil _) ⟨by dsimp only; omega, by dsimp only; omega, by dsimp only; omega, by dsimp only; omega, rfl, (by apply SS.up; (· assumption); (· rfl); (· first | omega | (simp only [next_bump]; omega)))⟩ (by dsimp only; omega) ?_
    rintro ⟨x, y, e⟩ H ⟨h1, h2, h3, h4, h5, h6⟩
    dsimp only at h1 h2 h3 h4 h5 h6 ⊢
    rw [Sort.partEqLoop_eq] at h5
    obtain ⟨X, hX⟩ : ∃ X, Sort.scanUp (fun x => !lt6 e[a]! x) e y x = X := ⟨_, rfl⟩
    obtain ⟨Y, hY⟩ : ∃ Y, Sort.scanDown (fun x => lt6 e[a]! x) e X y = Y := ⟨_, rfl⟩
    rw [hX, hY] at h5
    repeat' (first | refine WK.stop1 ?_ | refine WK.block ?_ | fail)
    refine Stop.mk (WK.cut (α := Unit) (fun _ => [(0, .sl s 0 n c), (1, nA a), (9, nA X), (10, nA y)]) (fun _ H => x ≤ X ∧ X ≤ y + 2 ∧ X ≤ b ∧ SS H0 s rest opn n H e) ?_ ?_)
    · repeat' (first | refine WK.block ?_ | fail)
      refine WK.loop (α := Nat) (fun p => [(0, .sl s 0 n c), (1, nA a), (9, nA p), (10, nA y)]) (fun p H => x ≤ p ∧ p ≤ y + 2 ∧ p ≤ b ∧ Sort.scanUp (fun x => !lt6 e[a]! x) e y p = X ∧ SS H0 s rest opn n H e) (fun p => y + 2 - p) x (.cons rfl <| .cons rfl <| .cons rfl <| .cons rfl <| .nil _) ⟨by omega, by omega, by omega, hX, (by apply SS.up; (· assumption); (· rfl); (· first | omega | (simp only [next_bump]; omega)))⟩ (by omega) ?_
      rintro p H ⟨g1, g2, g2', g3, g4⟩
      repeat' (first | refine WK.seq ?_ | refine WK.skip ?_ | refine WK.exit ?_ | refine WK.block ?_ | (apply WK.reg; (· exact lnn)) | (apply WK.regC; (· rfl); (· exact lnn); (· decide)) | refine WKC.nil ?_ | refine WKO.nil ?_ | ((first | apply WKC.op | apply WKO.op | ((first | apply WKC.gop); (· rfl); (· exact dcd))); (· first | exact k_mv rfl | (apply k_iaS; (· rfl); (· rfl); (· omega)) | (apply k_ldS; (· rfl); (· assumption); (· rfl); (· omega)) | exact k_call rfl rfl (hl _ _ _) | exact opA); (· rfl)) | ((first | apply WKC.gnoT); (· rfl); (· exact dcd)) | ((first | apply WKC.gsp); (· rfl); all_goals ((fail_if_success (refine known ?_ ?_; (· assumption))); intro _)) | refine pN ?_ | refine pX ?_ | refine bN ?_ | refine bX ?_ | (apply WK.condF; (· rfl); (· exact dcd)) | (apply WK.condN; (· rfl); all_goals intro _) | fail)
      · exact ⟨_, (.cons rfl <| .cons rfl <| .cons rfl <| .cons rfl <| .nil _), ⟨by omega, by omega, by omega, (up_step (by assumption) (notT (by assumption))).symm.trans g3, (by apply SS.up; (· assumption); (· rfl); (· first | omega | (simp only [next_bump]; omega)))⟩, by omega⟩
      · obtain rfl := (up_stop (.inr (notF (by assumption)))).symm.trans g3
        exact ⟨(), (.cons rfl <| .cons rfl <| .cons rfl <| .cons rfl <| .nil _), by omega, by omega, by omega, (by apply SS.up; (· assumption); (· rfl); (· first | omega | (simp only [next_bump]; omega)))⟩
      · obtain rfl := (up_stop (.inl (by assumption))).symm.trans g3
        exact ⟨(), (.cons rfl <| .cons rfl <| .cons rfl <| .cons rfl <| .nil _), by omega, by omega, by omega, (by apply SS.up; (· assumption); (· rfl); (· first | omega | (simp only [next_bump]; omega)))⟩
    · rintro _ H ⟨x1, x2, x2', x3⟩
      repeat' (first | refine WK.stop1 ?_ | fail)
      refine Stop.mk (WK.cut (α := Unit) (fun _ => [(0, .sl s 0 n c), (1, nA a), (9, nA X), (10, nA Y)]) (fun _ H => Y ≤ y ∧ X ≤ Y + 2 ∧ SS H0 s rest opn n H e) ?_ ?_)
      · repeat' (first | refine WK.block ?_ | fail)
        refine WK.loop (α := Nat) (fun p => [(0, .sl s 0 n c), (1, nA a), (9, nA X), (10, nA p)]) (fun p H => p ≤ y ∧ X ≤ p + 2 ∧ Sort.scanDown (fun x => lt6 e[a]! x) e X p = Y ∧ SS H0 s rest opn n H e) (fun p => p) y (.cons rfl <| .cons rfl <| .cons rfl <| .cons rfl <| .nil _) ⟨by omega, by omega, hY, (by apply SS.up; (· assumption); (· rfl); (· first | omega | (simp only [next_bump]; omega)))⟩ (by omega) ?_
        rintro p H ⟨g1, g2, g3, g4⟩
        repeat' (first | refine WK.seq ?_ | refine WK.skip ?_ | refine WK.exit ?_ | refine WK.block ?_ | (apply WK.reg; (· exact lnn)) | (apply WK.regC; (· rfl); (· exact lnn); (· decide)) | refine WKC.nil ?_ | refine WKO.nil ?_ | ((first | apply WKC.op | apply WKO.op | ((first | apply WKC.gop); (· rfl); (· exact dcd))); (· first | exact k_mv rfl | (apply k_iaS; (· rfl); (· rfl); (· omega)) | (apply k_ldS; (· rfl); (· assumption); (· rfl); (· omega)) | exact k_call rfl rfl (hl _ _ _) | exact opA); (· rfl)) | ((first | apply WKC.gnoT); (· rfl); (· exact dcd)) | ((first | apply WKC.gsp); (· rfl); all_goals ((fail_if_success (refine known ?_ ?_; (· assumption))); intro _)) | refine pN ?_ | refine pX ?_ | refine bN ?_ | refine bX ?_ | (apply WK.condF; (· rfl); (· exact dcd)) | (apply WK.condB; (· rfl); all_goals intro _) | fail)
        · exact ⟨_, (.cons rfl <| .cons rfl <| .cons rfl <| .cons rfl <| .nil _), ⟨by omega, by omega, (dn_step (by assumption) (by omega) (by assumption)).symm.trans g3, (by apply SS.up; (· assumption); (· rfl); (· first | omega | (simp only [next_bump]; omega)))⟩, by omega⟩
        · obtain rfl := (dn_stop (.inr (by assumption))).symm.trans g3
          exact ⟨(), (.cons rfl <| .cons rfl <| .cons rfl <| .cons rfl <| .nil _), by omega, by omega, (by apply SS.up; (· assumption); (· rfl); (· first | omega | (simp only [next_bump]; omega)))⟩
        · obtain rfl := (dn_stop (.inl (by assumption))).symm.trans g3
          exact ⟨(), (.cons rfl <| .cons rfl <| .cons rfl <| .cons rfl <| .nil _), by omega, by omega, (by apply SS.up; (· assumption); (· rfl); (· first | omega | (simp only [next_bump]; omega)))⟩
      · rintro _ H ⟨y1, y2, y3⟩
        repeat' (first | refine WK.seq ?_ | refine WK.skip ?_ | refine WK.exit ?_ | (apply WK.reg; (· exact lnn)) | (apply WK.regd0; (· exact lnn)) | (apply WKO.stS; (· rfl); (· rfl); (· assumption); (· rfl); (· first | omega | (simp only [next_bump]; omega)); (· omega); intro _ _ _ _) | refine WKO.nil ?_ | ((first | apply WKO.op); (· first | exact k_mv rfl | (apply k_iaS; (· rfl); (· rfl); (· omega)) | (apply k_ldS; (· rfl); (· assumption); (· rfl); (· omega)) | exact opA); (· rfl)) | refine pN ?_ | refine pX ?_ | refine bN ?_ | refine bX ?_ | refine bO (by decide) ?_ | (apply WK.condD; (· rfl); all_goals intro _) | fail)
        · rw [if_pos (by assumption)] at h5
          exact ⟨(_, _), (.cons rfl <| .cons rfl <| .cons rfl <| .nil _), h5.symm, (by apply SS.up; (· assumption); (· rfl); (· first | omega | (simp only [next_bump]; omega))), by dsimp only; omega, x2'⟩
        · rw [if_neg (by assumption)] at h5
          exact ⟨(_, _, _), (.cons rfl <| .cons rfl <| .cons rfl <| .cons rfl <| .nil _), ⟨by dsimp only; omega, by dsimp only; omega, by dsimp only; omega, by dsimp only; omega, h5, (by apply SS.up; (· assumption); (· rfl); (· first | omega | (simp only [next_bump]; omega)))⟩, by dsimp only; omega⟩
  · rintro ⟨m, e⟩ H ⟨m2, m3, m4, m5⟩
    dsimp only at m2 m3 m4 m5 ⊢
    repeat' (first | refine WK.seq ?_ | refine WK.ret ?_ | (apply WK.reg; (· exact lnn)) | refine WKO.nil ?_ | ((first | apply WKO.op); (· first | exact k_mv rfl); (· rfl)) | refine pN ?_ | fail)
    refine ⟨fun _ => by simp, _, rfl, ?_, ?_⟩
    · rw [hP, m2]; rfl
    · rw [hP, m2]; exact ⟨(by apply SS.up; (· assumption); (· rfl); (· first | omega | (simp only [next_bump]; omega))), m4, m5⟩
theorem ss_step {d : Array Int} {b i : Nat} (h : i < b) (hp : lt6 d[i]! d[i - 1]! = false) : Sort.scanSorted lt6 d b i = Sort.scanSorted lt6 d b (i + 1) := by
  rw [Sort.scanSorted, if_pos (by simp [h, hp])]
theorem ss_stop {d : Array Int} {b i : Nat} (h : ¬ i < b ∨ lt6 d[i]! d[i - 1]! = true) : Sort.scanSorted lt6 d b i = i := by
  rw [Sort.scanSorted, if_neg (by rcases h with h | h <;> simp [h])]
theorem sd_step {d : Array Int} {j : Nat} (h1 : 1 ≤ j) (hp : lt6 d[j]! d[j - 1]! = true) : Sort.shiftDown lt6 j d = Sort.shiftDown lt6 (j - 1) (Sort.swp d j (j - 1)) := by
  cases j with
  | zero => omega
  | succ j =>
    rw [Nat.add_sub_cancel] at hp
    rw [Sort.shiftDown, if_neg (by simp [hp])]
    rfl
theorem sd_stop {d : Array Int} {j : Nat} (h : j = 0 ∨ lt6 d[j]! d[j - 1]! = false) : Sort.shiftDown lt6 j d = d := by
  cases j with
  | zero => rfl
  | succ j =>
    rcases h with h | h
    · cases h
    · rw [Nat.add_sub_cancel] at h
      rw [Sort.shiftDown, if_pos (by simp [h])]
theorem su_step {d : Array Int} {b j : Nat} (h : j < b) (hp : lt6 d[j]! d[j - 1]! = true) : Sort.shiftUp lt6 b j d = Sort.shiftUp lt6 b (j + 1) (Sort.swp d j (j - 1)) := by
  rw [Sort.shiftUp, if_pos h, if_neg (by simp [hp])]
theorem su_stop {d : Array Int} {b j : Nat} (h : ¬ j < b ∨ lt6 d[j]! d[j - 1]! = false) : Sort.shiftUp lt6 b j d = d := by
  rw [Sort.shiftUp]
  rcases h with h | h
  · rw [if_neg h]
  · split
    · rw [if_pos (by simp [h])]
    · rfl
end Go.Proofs.Ytpbighinamljbaa.PA
namespace Go.Proofs.Ytpbighinamljbaa.PA
open Go Go.Eng Go.Proofs
set_option maxHeartbeats 2000000 in
theorem x92 {cf : CF} {fuel : Nat} {H0 H : AHeap} {s c n : Nat} {rest : List AV} {opn : Option Nat} {d : Array Int} {a b : Nat} (hl : Less cf) (hS : SS H0 s rest opn n H d) (hab : a < b) (hb : b ≤ n) (hsz : n < 1000000000) (hf : n + 6 < fuel) :
    ∃ v H', xfunc cf fuel L92 [.sl s 0 n c, nA a, nA b] H = some (v, H') ∧ v = .bool (Sort.partialInsertionSort lt6 d a b).2 ∧ SS H0 s rest opn n H' (Sort.partialInsertionSort lt6 d a b).1 := by
  refine xfunc_ofK rfl (by show 3 ≤ 133; omega) ?_
  unfold L92
  dsimp only
  repeat' (first | refine WK.stop2 ?_ | refine WK.seq ?_ | (apply WK.reg; (· exact lnn)) | refine WKO.nil ?_ | ((first | apply WKO.op); (· first | exact k_mv rfl | exact opA); (· rfl)) | refine pN ?_ | fail)
  refine Stop.mk (WK.cut (α := Array Int) (fun p => []) (fun p H => Sort.partialInsertionSort lt6 d a b = (p, false) ∧ SS H0 s rest opn n H p) ?_ ?_)
  · repeat' (first | refine WK.seq ?_ | refine WK.block ?_ | (apply WK.reg; (· exact lnn)) | refine WKO.nil ?_ | ((first | apply WKO.op); (· first | exact k_mv rfl); (· rfl)) | refine pN ?_ | fail)
    refine WK.loop (α := Nat × Nat × Array Int) (fun p => [(0, .sl s 0 n c), (1, nA a), (2, nA b), (7, nA p.2.1), (8, nA p.1)]) (fun p H => p.1 ≤ 5 ∧ a + 1 ≤ p.2.1 ∧ p.2.1 ≤ b ∧ Sort.partialIns lt6 a b (5 - p.1) p.2.1 p.2.2 = Sort.partialInsertionSort lt6 d a b ∧ SS H0 s rest opn n H p.2.2) (fun p => 5 - p.1) (0, a + 1, d) (.cons rfl <| .cons rfl <| .cons rfl <| .cons rfl <| .cons rfl <| .nil _) ⟨by dsimp only; omega, by dsimp only; omega, by dsimp only; omega, rfl, (by apply SS.up; (· assumption); (· rfl); (· first | omega | (simp only [next_bump]; omega)))⟩ (by dsimp only; omega) ?_
    rintro ⟨k, x, e⟩ H ⟨h1, h2, h3, h4, h5⟩
    dsimp only at h1 h2 h3 h4 h5 ⊢
    repeat' (first | refine WK.stop1 ?_ | refine WK.seq ?_ | refine WK.skip ?_ | refine WK.exit ?_ | refine WK.block ?_ | (apply WK.reg; (· exact lnn)) | refine WKO.nil ?_ | ((first | apply WKO.op); (· first | exact k_mv rfl | exact opA); (· rfl)) | refine pN ?_ | refine pX ?_ | refine bX ?_ | (apply WK.condD; (· rfl); all_goals intro _) | fail)
    · obtain ⟨I, hI⟩ : ∃ I, Sort.scanSorted lt6 e b x = I := ⟨_, rfl⟩
      have h4' : Sort.partialInsertionSort lt6 d a b = if I = b then (e, true) else if b - a < 50 then (e, false) else Sort.partialIns lt6 a b (5 - (k + 1)) I (if b - I ≥ 2 then Sort.shiftUp lt6 b (I + 1) (if I - a ≥ 2 then Sort.shiftDown lt6 (I - 1) (Sort.swp e I (I - 1)) else Sort.swp e I (I - 1)) else (if I - a ≥ 2 then Sort.shiftDown lt6 (I - 1) (Sort.swp e I (I - 1)) else Sort.swp e I (I - 1))) := by
        rw [← h4, show 5 - k = (5 - (k + 1)) + 1 by omega, Sort.partialIns]
        simp only [hI]
      clear h4
      refine Stop.mk (WK.cut (α := Unit) (fun _ => [(0, .sl s 0 n c), (1, nA a), (2, nA b), (7, nA I), (8, nA k)]) (fun _ H => x ≤ I ∧ I ≤ b ∧ SS H0 s rest opn n H e) ?_ ?_)
      · repeat' (first | refine WK.block ?_ | fail)
        refine WK.loop (α := Nat) (fun p => [(0, .sl s 0 n c), (1, nA a), (2, nA b), (7, nA p), (8, nA k)]) (fun p H => x ≤ p ∧ p ≤ b ∧ Sort.scanSorted lt6 e b p = I ∧ SS H0 s rest opn n H e) (fun p => b - p) x (.cons rfl <| .cons rfl <| .cons rfl <| .cons rfl <| .cons rfl <| .nil _) ⟨by omega, by omega, hI, (by apply SS.up; (· assumption); (· rfl); (· first | omega | (simp only [next_bump]; omega)))⟩ (by omega) ?_
        rintro p H ⟨g1, g2, g3, g4⟩
        repeat' (first | refine WK.seq ?_ | refine WK.skip ?_ | refine WK.exit ?_ | refine WK.block ?_ | (apply WK.reg; (· exact lnn)) | (apply WK.regC; (· rfl); (· exact lnn); (· decide)) | refine WKC.nil ?_ | refine WKO.nil ?_ | ((first | apply WKC.op | apply WKO.op | ((first | apply WKC.gop); (· rfl); (· exact dcd))); (· first | exact k_mv rfl | (apply k_iaS; (· rfl); (· rfl); (· omega)) | (apply k_ldS; (· rfl); (· assumption); (· rfl); (· omega)) | exact k_call rfl rfl (hl _ _ _) | exact opA); (· rfl)) | ((first | apply WKC.gnoT); (· rfl); (· exact dcd)) | ((first | apply WKC.gsp); (· rfl); all_goals ((fail_if_success (refine known ?_ ?_; (· assumption))); intro _)) | refine pN ?_ | refine pX ?_ | refine bN ?_ | refine bX ?_ | (apply WK.condF; (· rfl); (· exact dcd)) | (apply WK.condN; (· rfl); all_goals intro _) | fail)
        · exact ⟨_, (.cons rfl <| .cons rfl <| .cons rfl <| .cons rfl <| .cons rfl <| .nil _), ⟨by omega, by omega, (ss_step (by assumption) (by assumption)).symm.trans g3, (by apply SS.up; (· assumption); (· rfl); (· first | omega | (simp only [next_bump]; omega)))⟩, by omega⟩
        · obtain rfl := (ss_stop (.inr (by assumption))).symm.trans g3
          exact ⟨(), (.cons rfl <| .cons rfl <| .cons rfl <| .cons rfl <| .cons rfl <| .nil _), by omega, by omega, (by apply SS.up; (· assumption); (· rfl); (· first | omega | (simp only [next_bump]; omega)))⟩
        · obtain rfl := (ss_stop (.inl (by assumption))).symm.trans g3
          exact ⟨(), (.cons rfl <| .cons rfl <| .cons rfl <| .cons rfl <| .cons rfl <| .nil _), by omega, by omega, (by apply SS.up; (· assumption); (· rfl); (· first | omega | (simp only [next_bump]; omega)))⟩
      · rintro _ H ⟨x1, x2, x3⟩
        repeat' (first | refine WK.stop3 ?_ | refine WK.seq ?_ | refine WK.skip ?_ | refine WK.ret ?_ | (apply WK.reg; (· exact lnn)) | (apply WK.regd0; (· exact lnn)) | (apply WKO.stS; (· rfl); (· rfl); (· assumption); (· rfl); (· first | omega | (simp only [next_bump]; omega)); (· omega); intro _ _ _ _) | refine WKO.nil ?_ | ((first | apply WKO.op); (· first | exact k_mv rfl | (apply k_iaS; (· rfl); (· rfl); (· omega)) | (apply k_ldS; (· rfl); (· assumption); (· rfl); (· omega)) | exact opA); (· rfl)) | refine pN ?_ | refine pR ?_ | refine bR ?_ | (apply WK.condD; (· rfl); all_goals intro _) | fail)
        · refine ⟨fun _ => by simp, _, rfl, ?_, ?_⟩
          · rw [h4', if_pos (by assumption)]; rfl
          · rw [h4', if_pos (by assumption)]; exact (by apply SS.up; (· assumption); (· rfl); (· first | omega | (simp only [next_bump]; omega)))
        · refine ⟨fun _ => by simp, _, rfl, ?_, ?_⟩
          · rw [h4', if_neg (by assumption), if_pos (by assumption)]; rfl
          · rw [h4', if_neg (by assumption), if_pos (by assumption)]; exact (by apply SS.up; (· assumption); (· rfl); (· first | omega | (simp only [next_bump]; omega)))
        rw [if_neg (by assumption), if_neg (by assumption)] at h4'
        obtain ⟨E1, hE1⟩ : ∃ E1, Sort.swp e I (I - 1) = E1 := ⟨_, rfl⟩
        rename_i hs2 hn2 _
        rw [swp_eq, hE1] at hs2
        rw [hE1] at h4'
        obtain ⟨E2, hE2⟩ : ∃ E2, (if I - a ≥ 2 then Sort.shiftDown lt6 (I - 1) E1 else E1) = E2 := ⟨_, rfl⟩
        rw [hE2] at h4'
        refine Stop.mk (WK.cut (α := Unit) (fun _ => [(0, .sl s 0 n c), (1, nA a), (2, nA b), (7, nA I), (8, nA k)]) (fun _ H => SS H0 s rest opn n H E2) ?_ ?_)
        · repeat' (first | refine WK.seq ?_ | refine WK.skip ?_ | refine WK.block ?_ | (apply WK.reg; (· exact lnn)) | refine WKO.nil ?_ | ((first | apply WKO.op); (· first | exact k_mv rfl | exact opA); (· rfl)) | refine pN ?_ | (apply WK.condD; (· rfl); all_goals intro _) | fail)
          · rw [if_pos (by assumption)] at hE2
            refine WK.loop (α := Nat × Array Int) (fun p => [(0, .sl s 0 n c), (1, nA a), (2, nA b), (7, nA I), (8, nA k), (9, nA p.1)]) (fun p H => p.1 ≤ I - 1 ∧ Sort.shiftDown lt6 p.1 p.2 = E2 ∧ SS H0 s rest opn n H p.2) (fun p => p.1) (I - 1, E1) (.cons rfl <| .cons rfl <| .cons rfl <| .cons rfl <| .cons rfl <| .cons rfl <| .nil _) ⟨by dsimp only; omega, hE2, (by apply SS.up; (· assumption); (· rfl); (· first | omega | (simp only [next_bump]; omega)))⟩ (by dsimp only; omega) ?_
            rintro ⟨j, f⟩ H ⟨g1, g2, g3⟩
            dsimp only at g1 g2 g3 ⊢
            repeat' (first | refine WK.seq ?_ | refine WK.skip ?_ | refine WK.exit ?_ | refine WK.block ?_ | (apply WK.reg; (· exact lnn)) | (apply WK.regC; (· rfl); (· exact lnn); (· decide)) | (apply WK.regd0; (· exact lnn)) | (apply WKO.stS; (· rfl); (· rfl); (· assumption); (· rfl); (· first | omega | (simp only [next_bump]; omega)); (· omega); intro _ _ _ _) | refine WKC.nil ?_ | refine WKO.nil ?_ | ((first | apply WKC.op | apply WKO.op); (· first | exact k_mv rfl | (apply k_iaS; (· rfl); (· rfl); (· omega)) | (apply k_ldS; (· rfl); (· assumption); (· rfl); (· omega)) | exact k_call rfl rfl (hl _ _ _) | exact opA); (· rfl)) | refine pN ?_ | refine pX ?_ | refine bN ?_ | refine bX ?_ | refine bO (by decide) ?_ | (apply WK.condD; (· rfl); all_goals intro _) | (apply WK.condN; (· rfl); all_goals intro _) | fail)
            · rw [sd_stop (.inr (by assumption))] at g2
              subst g2
              exact ⟨(), (.cons rfl <| .cons rfl <| .cons rfl <| .cons rfl <| .cons rfl <| .nil _), (by apply SS.up; (· assumption); (· rfl); (· first | omega | (simp only [next_bump]; omega)))⟩
            · exact ⟨(_, _), (.cons rfl <| .cons rfl <| .cons rfl <| .cons rfl <| .cons rfl <| .cons rfl <| .nil _), ⟨by dsimp only; omega, (sd_step (by omega) (by assumption)).symm.trans g2, (by apply SS.up; (· assumption); (· rfl); (· first | omega | (simp only [next_bump]; omega)))⟩, by dsimp only; omega⟩
            · rw [sd_stop (.inl (by omega))] at g2
              subst g2
              exact ⟨(), (.cons rfl <| .cons rfl <| .cons rfl <| .cons rfl <| .cons rfl <| .nil _), (by apply SS.up; (· assumption); (· rfl); (· first | omega | (simp only [next_bump]; omega)))⟩
          · rw [if_neg (by assumption)] at hE2
            subst hE2
            exact ⟨(), (.cons rfl <| .cons rfl <| .cons rfl <| .cons rfl <| .cons rfl <| .nil _), (by apply SS.up; (· assumption); (· rfl); (· first | omega | (simp only [next_bump]; omega)))⟩
        · rintro _ H hs3
          repeat' (first | refine WK.seq ?_ | refine WK.skip ?_ | refine WK.block ?_ | (apply WK.reg; (· exact lnn)) | refine WKO.nil ?_ | ((first | apply WKO.op); (· first | exact k_mv rfl | exact opA); (· rfl)) | refine pN ?_ | refine bN ?_ | (apply WK.condD; (· rfl); all_goals intro _) | fail)
          · rw [if_pos (by assumption)] at h4'
            refine WK.loop (α := Nat × Array Int) (fun p => [(0, .sl s 0 n c), (1, nA a), (2, nA b), (7, nA I), (8, nA k), (10, nA p.1)]) (fun p H => I + 1 ≤ p.1 ∧ p.1 ≤ b ∧ Sort.shiftUp lt6 b p.1 p.2 = Sort.shiftUp lt6 b (I + 1) E2 ∧ SS H0 s rest opn n H p.2) (fun p => b - p.1) (I + 1, E2) (.cons rfl <| .cons rfl <| .cons rfl <| .cons rfl <| .cons rfl <| .cons rfl <| .nil _) ⟨by dsimp only; omega, by dsimp only; omega, rfl, (by apply SS.up; (· assumption); (· rfl); (· first | omega | (simp only [next_bump]; omega)))⟩ (by dsimp only; omega) ?_
            rintro ⟨j, f⟩ H ⟨g1, g2, g3, g4⟩
            dsimp only at g1 g2 g3 g4 ⊢
            repeat' (first | refine WK.seq ?_ | refine WK.skip ?_ | refine WK.exit ?_ | refine WK.block ?_ | (apply WK.reg; (· exact lnn)) | (apply WK.regC; (· rfl); (· exact lnn); (· decide)) | (apply WK.regd0; (· exact lnn)) | (apply WKO.stS; (· rfl); (· rfl); (· assumption); (· rfl); (· first | omega | (simp only [next_bump]; omega)); (· omega); intro _ _ _ _) | refine WKC.nil ?_ | refine WKO.nil ?_ | ((first | apply WKC.op | apply WKO.op); (· first | exact k_mv rfl | (apply k_iaS; (· rfl); (· rfl); (· omega)) | (apply k_ldS; (· rfl); (· assumption); (· rfl); (· omega)) | exact k_call rfl rfl (hl _ _ _) | exact opA); (· rfl)) | refine pN ?_ | refine pX ?_ | refine bN ?_ | refine bX ?_ | refine bO (by decide) ?_ | (apply WK.condD; (· rfl); all_goals intro _) | (apply WK.condN; (· rfl); all_goals intro _) | fail)
            · rw [su_stop (.inr (by assumption))] at g3
              subst g3
              exact ⟨(_, _, _), (.cons rfl <| .cons rfl <| .cons rfl <| .cons rfl <| .cons rfl <| .nil _), ⟨by dsimp only; omega, by dsimp only; omega, by dsimp only; omega, h4'.symm, (by apply SS.up; (· assumption); (· rfl); (· first | omega | (simp only [next_bump]; omega)))⟩, by dsimp only; omega⟩
            · exact ⟨(_, _), (.cons rfl <| .cons rfl <| .cons rfl <| .cons rfl <| .cons rfl <| .cons rfl <| .nil _), ⟨by dsimp only; omega, by dsimp only; omega, (su_step (by assumption) (by assumption)).symm.trans g3, (by apply SS.up; (· assumption); (· rfl); (· first | omega | (simp only [next_bump]; omega)))⟩, by dsimp only; omega⟩
            · rw [su_stop (.inl (by assumption))] at g3
              subst g3
              exact ⟨(_, _, _), (.cons rfl <| .cons rfl <| .cons rfl <| .cons rfl <| .cons rfl <| .nil _), ⟨by dsimp only; omega, by dsimp only; omega, by dsimp only; omega, h4'.symm, (by apply SS.up; (· assumption); (· rfl); (· first | omega | (simp only [next_bump]; omega)))⟩, by dsimp only; omega⟩
          · rw [if_neg (by assumption)] at h4'
            exact ⟨(_, _, _), (.cons rfl <| .cons rfl <| .cons rfl <| .cons rfl <| .cons rfl <| .nil _), ⟨by dsimp only; omega, by dsimp only; omega, by dsimp only; omega, h4'.symm, (by apply SS.up; (· assumption); (· rfl); (· first | omega | (simp only [next_bump]; omega)))⟩, by dsimp only; omega⟩
    · rw [show 5 - k = 0 by omega] at h4
      exact ⟨e, .nil _, h4.symm, (by apply SS.up; (· assumption); (· rfl); (· first | omega | (simp only [next_bump]; omega)))⟩
  · rintro p H ⟨h1, h2⟩
    repeat' (first | refine WK.seq ?_ | refine WK.ret ?_ | (apply WK.reg; (· exact lnn)) | refine WKO.nil ?_ | ((first | apply WKO.op); (· first | exact k_mv rfl); (· rfl)) | refine pN ?_ | fail)
    refine ⟨fun _ => by simp, _, rfl, ?_, ?_⟩
    · rw [h1]; rfl
    · rw [h1]; exact (by apply SS.up; (· assumption); (· rfl); (· first | omega | (simp only [next_bump]; omega)))
end Go.Proofs.Ytpbighinamljbaa.PA
namespace Go.Proofs.Ytpbighinamljbaa.PA
open Go Go.Eng Go.Proofs
def SW (H : AHeap) (w : Nat) (x : AV) : Prop := H.get w = some (.cells [x] none)
theorem SW.up {H H' : AHeap} {w : Nat} {x : AV} (h : SW H w x) (hm : H'.m = H.m) : SW H' w x := by
  unfold SW AHeap.get at h ⊢
  rw [hm]; exact h
theorem SW.fr {H H' : AHeap} {w i : Nat} {x : AV} (hf : ∀ k, k ≠ i → H'.get k = H.get k) (hw : w ≠ i) (h : SW H w x) : SW H' w x := by
  unfold SW at h ⊢
  rw [hf w hw]; exact h
section
variable {cf : CF} {n m : Nat} {H0 H H' : AHeap} {i w : Nat} {rest : List AV} {opn : Option Nat} {d : Array Int} {l : KL0} {x y : XO}
theorem k_ldW {u : AV} (hx : evK l x = some (.ptr w 0)) (hW : SW H w u) (hm : H'.m = H.m) : XV cf l H' n (.load none x) = some (u, H') :=
  k_any (op_loadc hx (hW.up hm) rfl)
theorem WKO.stW {u v : AV} {a x : XO} {r : List XOper} {R : KL0 → AHeap → Prop} (ha : evK l a = some (.ptr w 0)) (hx : evK l x = some v) (hW : SW H w u) (hS : SS H0 i rest opn m H d) (hm : H'.m = H.m) (hn : H.next ≤ H'.next) (hw : H0.next ≤ w) (hi : i < H0.next) (hv : v.cells = [v]) (hv1 : v.oneCell = true)
    (k : ∀ H1, SS H0 i rest opn m H1 d → SW H1 w v → H1.next = H'.next → WKO cf r (n + 1) l H1 R) : WKO cf (⟨none, .store 1 a x, none⟩ :: r) n l H' R := by
  unfold WKO at k ⊢
  intro tm ht
  have hS := hS.up hm hn
  refine WO.store (ht.ev ha) (ht.ev hx) (hW.up hm) (by rw [hv]; rfl) (by rw [hv]; simp [hv1]) (by simp) (fun H1 h1 h2 h3 => k H1 ⟨(h2 i (by omega)).trans hS.dat, hS.sz, by rw [h3]; exact hS.nx, fun k hk hne => (h2 k (by omega)).trans (hS.fr k hk hne)⟩ ?_ h3 tm ht)
  unfold SW
  rw [h1, hv]
  rfl
theorem WKO.alW {u : AV} {t : Nat} {r : List XOper} {R : KL0 → AHeap → Prop} (hS : SS H0 i rest opn m H d) (hm : H'.m = H.m) (hn : H.next ≤ H'.next) (hi : i < H0.next) (hw : H0.next ≤ n)
    (k : ∀ H1, SS H0 i rest opn m H1 d → SW H1 n u → H1.next = H'.next → WKO cf r (n + 1) ((t, .ptr n 0) :: l) H1 R) : WKO cf (⟨some t, .alloc [u], none⟩ :: r) n l H' R := by
  unfold WKO at k ⊢
  intro tm ht
  have hS := hS.up hm hn
  exact WO.alloc (fun H1 h1 h2 h3 => k H1 ⟨(h2 i (by omega)).trans hS.dat, hS.sz, by rw [h3]; exact hS.nx, fun k hk hne => (h2 k (by omega)).trans (hS.fr k hk hne)⟩ h1 h3 _ (ht.set t _))
end
def O2 (H0 : AHeap) (i : Nat) (rest : List AV) (opn : Option Nat) (m : Nat) (d : Array Int) (w sw : Nat) (H : AHeap) : Prop := SS H0 i rest opn m H d ∧ SW H w (nA sw)
theorem x104 {cf : CF} {fuel : Nat} {H0 H : AHeap} {s c n : Nat} {rest : List AV} {opn : Option Nat} {d : Array Int} {a b w sw : Nat} (hl : Less cf) (hS : SS H0 s rest opn n H d) (hW : SW H w (nA sw)) (hw : H0.next ≤ w) (hs : s < H0.next) (ha : a < n) (hb : b < n) (hsw : sw < 100) :
    ∃ v H', xfunc cf fuel L104 [.sl s 0 n c, nA a, nA b, .ptr w 0] H = some (v, H') ∧ v = .tup [nA (Sort.order2 lt6 d a b sw).1, nA (Sort.order2 lt6 d a b sw).2.1] ∧ O2 H0 s rest opn n d w (Sort.order2 lt6 d a b sw).2.2 H' := by
  refine xfunc_ofK rfl (by show 4 ≤ 28; omega) ?_
  unfold L104
  dsimp only
  repeat' (first | refine WK.seq ?_ | refine WK.skip ?_ | refine WK.ret ?_ | (apply WK.reg; (· exact lnn)) | (apply WK.regC; (· rfl); (· exact lnn); (· decide)) | (apply WKO.stW; (· rfl); (· rfl); (· assumption); (· assumption); (· rfl); (· first | (simp only [next_bump]; omega)); (· first | omega); (· omega); (· rfl); (· rfl); intro _ _ _ _) | refine WKC.nil ?_ | refine WKO.nil ?_ | ((first | apply WKC.op | apply WKO.op); (· first | exact k_mv rfl | (apply k_iaS; (· rfl); (· rfl); (· omega)) | (apply k_ldS; (· rfl); (· assumption); (· rfl); (· omega)) | exact k_call rfl rfl (hl _ _ _) | exact k_nilc rfl | (apply k_ldW; (· rfl); (· assumption); (· rfl)) | exact opA); (· rfl)) | refine pN ?_ | refine pR ?_ | (apply WK.condB; (· rfl); all_goals intro _) | fail)
  · have e : Sort.order2 lt6 d a b sw = (b, a, sw + 1) := by rw [Sort.order2, if_pos (by assumption)]
    rw [e]
    exact ⟨fun _ => by simp, _, rfl, rfl, (by apply SS.up; (· assumption); (· rfl); (· first | omega | (simp only [next_bump]; omega))), (by apply SW.up; (· assumption); (· rfl))⟩
  · have e : Sort.order2 lt6 d a b sw = (a, b, sw) := by rw [Sort.order2, if_neg (by simp [*])]
    rw [e]
    exact ⟨fun _ => by simp, _, rfl, rfl, (by apply SS.up; (· assumption); (· rfl); (· first | omega | (simp only [next_bump]; omega))), (by apply SW.up; (· assumption); (· rfl))⟩
def K104 (cf : CF) (s c n : Nat) (rest : List AV) (opn : Option Nat) : Prop := ∀ {H0 H : AHeap} {d : Array Int} {a b w sw : Nat}, SS H0 s rest opn n H d → SW H w (nA sw) → H0.next ≤ w → s < H0.next → a < n → b < n → sw < 100 →
  ∃ H', cf 104 [.sl s 0 n c, nA a, nA b, .ptr w 0] H = some (.tup [nA (Sort.order2 lt6 d a b sw).1, nA (Sort.order2 lt6 d a b sw).2.1], H') ∧ O2 H0 s rest opn n d w (Sort.order2 lt6 d a b sw).2.2 H'
theorem order2_b {d : Array Int} {a b sw n : Nat} (ha : a < n) (hb : b < n) : (Sort.order2 lt6 d a b sw).1 < n ∧ (Sort.order2 lt6 d a b sw).2.1 < n ∧ (Sort.order2 lt6 d a b sw).2.2 ≤ sw + 1 := by
  have h1 := Sort.order2_mem lt6 d a b sw
  have h2 := Sort.order2_count (lt := lt6) d a b sw
  omega
theorem x102 {cf : CF} {fuel : Nat} {H0 H : AHeap} {s c n : Nat} {rest : List AV} {opn : Option Nat} {d : Array Int} {a b e w sw : Nat} (h104 : K104 cf s c n rest opn) (hS : SS H0 s rest opn n H d) (hW : SW H w (nA sw)) (hw : H0.next ≤ w) (hs : s < H0.next) (ha : a < n) (hb : b < n) (he : e < n) (hsw : sw < 90) :
    ∃ v H', xfunc cf fuel L102 [.sl s 0 n c, nA a, nA b, nA e, .ptr w 0] H = some (v, H') ∧ v = nA (Sort.median lt6 d a b e sw).1 ∧ O2 H0 s rest opn n d w (Sort.median lt6 d a b e sw).2 H' := by
  refine xfunc_ofK rfl (by show 5 ≤ 36; omega) ?_
  obtain ⟨b1, b2, b3⟩ := order2_b (d := d) (sw := sw) ha hb
  obtain ⟨c1, c2, c3⟩ := order2_b (d := d) (sw := (Sort.order2 lt6 d a b sw).2.2) b2 he
  obtain ⟨e1, e2, e3⟩ := order2_b (d := d) (sw := (Sort.order2 lt6 d (Sort.order2 lt6 d a b sw).2.1 e (Sort.order2 lt6 d a b sw).2.2).2.2) b1 c1
  unfold L102
  dsimp only
  repeat' (first | refine WK.seq ?_ | refine WK.ret ?_ | (apply WK.reg; (· exact lnn)) | (refine WKO.callE rfl rfl rfl (h104 (by apply SS.up; (· assumption); (· rfl); (· first | omega | (simp only [next_bump]; omega))) (by apply SW.up; (· assumption); (· rfl)) hw hs (by omega) (by omega) (by omega)) ?_; rintro _ ⟨_, _⟩) | refine WKO.nil ?_ | ((first | apply WKO.op); (· first | exact k_mv rfl | exact opA); (· rfl)) | refine pN ?_ | fail)
  exact ⟨fun _ => by simp, _, rfl, rfl, (by apply SS.up; (· assumption); (· rfl); (· first | omega | (simp only [next_bump]; omega))), (by apply SW.up; (· assumption); (· rfl))⟩
end Go.Proofs.Ytpbighinamljbaa.PA
namespace Go.Proofs.Ytpbighinamljbaa.PA
open Go Go.Eng Go.Proofs
def K102 (cf : CF) (s c n : Nat) (rest : List AV) (opn : Option Nat) : Prop := ∀ {H0 H : AHeap} {d : Array Int} {a b e w sw : Nat}, SS H0 s rest opn n H d → SW H w (nA sw) → H0.next ≤ w → s < H0.next → a < n → b < n → e < n → sw < 90 →
  ∃ H', cf 102 [.sl s 0 n c, nA a, nA b, nA e, .ptr w 0] H = some (nA (Sort.median lt6 d a b e sw).1, H') ∧ O2 H0 s rest opn n d w (Sort.median lt6 d a b e sw).2 H'
def K101 (cf : CF) (s c n : Nat) (rest : List AV) (opn : Option Nat) : Prop := ∀ {H0 H : AHeap} {d : Array Int} {a w sw : Nat}, SS H0 s rest opn n H d → SW H w (nA sw) → H0.next ≤ w → s < H0.next → 1 ≤ a → a + 1 < n → sw < 90 →
  ∃ H', cf 101 [.sl s 0 n c, nA a, .ptr w 0] H = some (nA (Sort.medianAdjacent lt6 d a sw).1, H') ∧ O2 H0 s rest opn n d w (Sort.medianAdjacent lt6 d a sw).2 H'
theorem x101 {cf : CF} {fuel : Nat} {H0 H : AHeap} {s c n : Nat} {rest : List AV} {opn : Option Nat} {d : Array Int} {a w sw : Nat} (h102 : K102 cf s c n rest opn) (hS : SS H0 s rest opn n H d) (hW : SW H w (nA sw)) (hw : H0.next ≤ w) (hs : s < H0.next) (ha : 1 ≤ a) (ha2 : a + 1 < n) (hsz : n < 1000000000) (hsw : sw < 90) :
    ∃ v H', xfunc cf fuel L101 [.sl s 0 n c, nA a, .ptr w 0] H = some (v, H') ∧ v = nA (Sort.medianAdjacent lt6 d a sw).1 ∧ O2 H0 s rest opn n d w (Sort.medianAdjacent lt6 d a sw).2 H' := by
  refine xfunc_ofK rfl (by show 3 ≤ 15; omega) ?_
  unfold L101
  dsimp only
  repeat' (first | refine WK.seq ?_ | refine WK.ret ?_ | (apply WK.reg; (· exact lnn)) | (refine WKO.callE rfl rfl rfl (h102 (by apply SS.up; (· assumption); (· rfl); (· first | omega | (simp only [next_bump]; omega))) (by apply SW.up; (· assumption); (· rfl)) hw hs (by omega) (by omega) (by omega) hsw) ?_; rintro _ ⟨_, _⟩) | refine WKO.nil ?_ | ((first | apply WKO.op); (· first | exact k_mv rfl | exact opA); (· rfl)) | refine pN ?_ | fail)
  exact ⟨fun _ => by simp, _, rfl, rfl, (by apply SS.up; (· assumption); (· rfl); (· first | omega | (simp only [next_bump]; omega))), (by apply SW.up; (· assumption); (· rfl))⟩
def hintN : Sort.Hint → Nat
  | .unknown => 0
  | .increasing => 1
  | .decreasing => 2
theorem adj_b {d : Array Int} {a sw n : Nat} (ha : a + 1 < n) : (Sort.medianAdjacent lt6 d a sw).1 < n ∧ (Sort.medianAdjacent lt6 d a sw).2 ≤ sw + 3 := by
  have h1 := Sort.medianAdjacent_mem lt6 d a sw
  have h2 := Sort.medianAdjacent_count (lt := lt6) d a sw
  omega
set_option maxHeartbeats 1000000 in
theorem x90 {cf : CF} {fuel : Nat} {H0 H : AHeap} {s c n : Nat} {rest : List AV} {opn : Option Nat} {d : Array Int} {a b : Nat} (h101 : K101 cf s c n rest opn) (h102 : K102 cf s c n rest opn) (hS : SS H0 s rest opn n H d) (hs : s < H0.next) (hab : a < b) (hb : b ≤ n) (hsz : n < 1000000000) :
    ∃ v H', xfunc cf fuel L90 [.sl s 0 n c, nA a, nA b] H = some (v, H') ∧ v = .tup [nA (Sort.choosePivot lt6 d a b).1, nA (hintN (Sort.choosePivot lt6 d a b).2)] ∧ SS H0 s rest opn n H' d := by
  refine xfunc_ofK rfl (by show 3 ≤ 57; omega) ?_
  unfold L90
  dsimp only
  have hnx := hS.nx
  have e0 : b - a ≥ 8 → b - a ≥ 50 → Sort.choosePivot lt6 d a b = ((Sort.median lt6 d (Sort.medianAdjacent lt6 d (a + (b - a) / 4 * 1) 0).1 (Sort.medianAdjacent lt6 d (a + (b - a) / 4 * 2) (Sort.medianAdjacent lt6 d (a + (b - a) / 4 * 1) 0).2).1 (Sort.medianAdjacent lt6 d (a + (b - a) / 4 * 3) (Sort.medianAdjacent lt6 d (a + (b - a) / 4 * 2) (Sort.medianAdjacent lt6 d (a + (b - a) / 4 * 1) 0).2).2).1 (Sort.medianAdjacent lt6 d (a + (b - a) / 4 * 3) (Sort.medianAdjacent lt6 d (a + (b - a) / 4 * 2) (Sort.medianAdjacent lt6 d (a + (b - a) / 4 * 1) 0).2).2).2).1, if (Sort.median lt6 d (Sort.medianAdjacent lt6 d (a + (b - a) / 4 * 1) 0).1 (Sort.medianAdjacent lt6 d (a + (b - a) / 4 * 2) (Sort.medianAdjacent lt6 d (a + (b - a) / 4 * 1) 0).2).1 (Sort.medianAdjacent lt6 d (a + (b - a) / 4 * 3) (Sort.medianAdjacent lt6 d (a + (b - a) / 4 * 2) (Sort.medianAdjacent lt6 d (a + (b - a) / 4 * 1) 0).2).2).1 (Sort.medianAdjacent lt6 d (a + (b - a) / 4 * 3) (Sort.medianAdjacent lt6 d (a + (b - a) / 4 * 2) (Sort.medianAdjacent lt6 d (a + (b - a) / 4 * 1) 0).2).2).2).2 = 0 then .increasing else if (Sort.median lt6 d (Sort.medianAdjacent lt6 d (a + (b - a) / 4 * 1) 0).1 (Sort.medianAdjacent lt6 d (a + (b - a) / 4 * 2) (Sort.medianAdjacent lt6 d (a + (b - a) / 4 * 1) 0).2).1 (Sort.medianAdjacent lt6 d (a + (b - a) / 4 * 3) (Sort.medianAdjacent lt6 d (a + (b - a) / 4 * 2) (Sort.medianAdjacent lt6 d (a + (b - a) / 4 * 1) 0).2).2).1 (Sort.medianAdjacent lt6 d (a + (b - a) / 4 * 3) (Sort.medianAdjacent lt6 d (a + (b - a) / 4 * 2) (Sort.medianAdjacent lt6 d (a + (b - a) / 4 * 1) 0).2).2).2).2 = 12 then .decreasing else .unknown) := by
    intro h1 h2
    simp only [Sort.choosePivot, if_pos h1, if_pos h2]
  have e1 : b - a ≥ 8 → ¬ b - a ≥ 50 → Sort.choosePivot lt6 d a b = ((Sort.median lt6 d (a + (b - a) / 4 * 1) (a + (b - a) / 4 * 2) (a + (b - a) / 4 * 3) 0).1, if (Sort.median lt6 d (a + (b - a) / 4 * 1) (a + (b - a) / 4 * 2) (a + (b - a) / 4 * 3) 0).2 = 0 then .increasing else if (Sort.median lt6 d (a + (b - a) / 4 * 1) (a + (b - a) / 4 * 2) (a + (b - a) / 4 * 3) 0).2 = 12 then .decreasing else .unknown) := by
    intro h1 h2
    simp only [Sort.choosePivot, if_pos h1, if_neg h2]
  have e2 : ¬ b - a ≥ 8 → Sort.choosePivot lt6 d a b = (a + (b - a) / 4 * 2, .increasing) := by
    intro h1
    simp only [Sort.choosePivot, if_neg h1]
    rfl
  have A1 : b - a ≥ 50 → _ ∧ _ := fun h => adj_b (d := d) (a := a + (b - a) / 4 * 1) (sw := 0) (n := n) (by omega)
  have A2 : b - a ≥ 50 → _ ∧ _ := fun h => adj_b (d := d) (a := a + (b - a) / 4 * 2) (sw := (Sort.medianAdjacent lt6 d (a + (b - a) / 4 * 1) 0).2) (n := n) (by omega)
  have A3 : b - a ≥ 50 → _ ∧ _ := fun h => adj_b (d := d) (a := a + (b - a) / 4 * 3) (sw := (Sort.medianAdjacent lt6 d (a + (b - a) / 4 * 2) (Sort.medianAdjacent lt6 d (a + (b - a) / 4 * 1) 0).2).2) (n := n) (by omega)
  repeat' (first | refine WK.seq ?_ | refine WK.skip ?_ | refine WK.ret ?_ | refine WK.block ?_ | (apply WK.reg; (· exact lnn)) | (refine WKO.callE rfl rfl rfl (h101 (by apply SS.up; (· assumption); (· rfl); (· first | omega | (simp only [next_bump]; omega))) (by apply SW.up; (· assumption); (· rfl)) (by first | omega | (simp only [next_bump]; omega)) hs (by omega) (by omega) (by omega)) ?_; rintro _ ⟨_, _⟩) | (refine WKO.callE rfl rfl rfl (h102 (by apply SS.up; (· assumption); (· rfl); (· first | omega | (simp only [next_bump]; omega))) (by apply SW.up; (· assumption); (· rfl)) (by first | omega | (simp only [next_bump]; omega)) hs (by omega) (by omega) (by omega) (by omega)) ?_; rintro _ ⟨_, _⟩) | (apply WKO.alW; (· assumption); (· rfl); (· first | (simp only [next_bump]; omega)); (· assumption); (· first | (simp only [next_bump]; omega)); intro _ _ _ _) | refine WKO.nil ?_ | ((first | apply WKO.op); (· first | exact k_mv rfl | (apply k_ldW; (· rfl); (· assumption); (· rfl)) | exact opA); (· rfl)) | refine pN ?_ | refine bR ?_ | (apply WK.condT; (· rfl); (· exact dcd)) | (apply WK.condD; (· rfl); all_goals intro _) | fail)
  · rw [e0 (by assumption) (by assumption)]
    exact ⟨fun _ => by simp, _, rfl, by rw [if_pos (by assumption)]; rfl, (by apply SS.up; (· assumption); (· rfl); (· first | omega | (simp only [next_bump]; omega)))⟩
  · rw [e0 (by assumption) (by assumption)]
    exact ⟨fun _ => by simp, _, rfl, by rw [if_neg (by assumption), if_pos (by assumption)]; rfl, (by apply SS.up; (· assumption); (· rfl); (· first | omega | (simp only [next_bump]; omega)))⟩
  · rw [e0 (by assumption) (by assumption)]
    exact ⟨fun _ => by simp, _, rfl, by rw [if_neg (by assumption), if_neg (by assumption)]; rfl, (by apply SS.up; (· assumption); (· rfl); (· first | omega | (simp only [next_bump]; omega)))⟩
  · rw [e1 (by assumption) (by assumption)]
    exact ⟨fun _ => by simp, _, rfl, by rw [if_pos (by assumption)]; rfl, (by apply SS.up; (· assumption); (· rfl); (· first | omega | (simp only [next_bump]; omega)))⟩
  · rw [e1 (by assumption) (by assumption)]
    exact ⟨fun _ => by simp, _, rfl, by rw [if_neg (by assumption), if_pos (by assumption)]; rfl, (by apply SS.up; (· assumption); (· rfl); (· first | omega | (simp only [next_bump]; omega)))⟩
  · rw [e1 (by assumption) (by assumption)]
    exact ⟨fun _ => by simp, _, rfl, by rw [if_neg (by assumption), if_neg (by assumption)]; rfl, (by apply SS.up; (· assumption); (· rfl); (· first | omega | (simp only [next_bump]; omega)))⟩
  · rw [e2 (by assumption)]
    exact ⟨fun _ => by simp, _, rfl, rfl, (by apply SS.up; (· assumption); (· rfl); (· first | omega | (simp only [next_bump]; omega)))⟩
end Go.Proofs.Ytpbighinamljbaa.PA
namespace Go.Proofs.Ytpbighinamljbaa.PA
open Go Go.Eng Go.Proofs
def uA (n : Nat) : AV := .int .u64 (n : Int)
theorem wrapU (n : Int) : wrapA .u64 n = n % 18446744073709551616 := by
  simp [wrapA, IntKind.wrap, IntKind.bits, IntKind.signed]
theorem wrapU_nat (n : Nat) : wrapA .u64 (n : Int) = ((n % 18446744073709551616 : Nat) : Int) := by
  rw [wrapU]; rfl
section
variable {cf : CF} {n a b : Nat} {H : AHeap} {l : KL0} {x y : XO}
theorem k_shlU {k : Nat} {kk : IntKind} (hx : evK l x = some (uA a)) (hy : evK l y = some (.int kk (k : Int))) (h : k ≤ 64) : XV cf l H n (.bin .shl x y) = some (uA (a * 2 ^ k % 18446744073709551616), H) :=
  k_bin hx hy (by
    show (if (k : Int) < 0 then none else some (AV.int .u64 (wrapA .u64 ((a : Int) * 2 ^ (min (k : Int).toNat 64))))) = _
    rw [if_neg (by omega), Int.toNat_natCast, Nat.min_eq_left h]
    have : ((a : Int) * 2 ^ k) = ((a * 2 ^ k : Nat) : Int) := by simp
    rw [this, wrapU_nat]
    rfl)
theorem k_shrU {k : Nat} {kk : IntKind} (hx : evK l x = some (uA a)) (hy : evK l y = some (.int kk (k : Int))) (h : k ≤ 64) : XV cf l H n (.bin .shr x y) = some (uA (a / 2 ^ k), H) :=
  k_bin hx hy (by
    show (if (k : Int) < 0 then none else some (AV.int .u64 ((a : Int).fdiv (2 ^ (min (k : Int).toNat 64))))) = _
    rw [if_neg (by omega), Int.toNat_natCast, Nat.min_eq_left h]
    have : (2 : Int) ^ k = ((2 ^ k : Nat) : Int) := by simp
    rw [this, Int.fdiv_eq_ediv_of_nonneg _ (Int.natCast_nonneg _)]
    rfl)
theorem k_xorU (hx : evK l x = some (uA a)) (hy : evK l y = some (uA b)) (ha : a < 18446744073709551616) (hb : b < 18446744073709551616) : XV cf l H n (.bin .xor x y) = some (uA (a ^^^ b), H) :=
  k_bin hx hy (by
    show some (AV.int .u64 (wrapA .u64 ((BitVec.ofInt 64 (a : Int) ^^^ BitVec.ofInt 64 (b : Int)).toNat : Nat))) = _
    have h : a ^^^ b < 2 ^ 64 := Nat.xor_lt_two_pow (by omega) (by omega)
    rw [BitVec.toNat_xor, BitVec.ofInt_natCast, BitVec.ofInt_natCast, BitVec.toNat_ofNat, BitVec.toNat_ofNat, Nat.mod_eq_of_lt (by omega), Nat.mod_eq_of_lt (by omega), wrapU_nat, Nat.mod_eq_of_lt (by omega)]
    rfl)
theorem k_andU (hx : evK l x = some (uA a)) (hy : evK l y = some (uA b)) (ha : a < 18446744073709551616) (hb : b < 18446744073709551616) : XV cf l H n (.bin .and x y) = some (uA (a &&& b), H) :=
  k_bin hx hy (by
    show some (AV.int .u64 (wrapA .u64 ((BitVec.ofInt 64 (a : Int) &&& BitVec.ofInt 64 (b : Int)).toNat : Nat))) = _
    have h : a &&& b < 2 ^ 64 := Nat.lt_of_le_of_lt Nat.and_le_left (by omega)
    rw [BitVec.toNat_and, BitVec.ofInt_natCast, BitVec.ofInt_natCast, BitVec.toNat_ofNat, BitVec.toNat_ofNat, Nat.mod_eq_of_lt (by omega), Nat.mod_eq_of_lt (by omega), wrapU_nat, Nat.mod_eq_of_lt (by omega)]
    rfl)
theorem k_subU (hx : evK l x = some (uA a)) (hy : evK l y = some (uA b)) (h : b ≤ a) (ha : a < 18446744073709551616) : XV cf l H n (.bin .sub x y) = some (uA (a - b), H) :=
  k_bin hx hy (by
    show some (AV.int .u64 (wrapA .u64 ((a : Int) - (b : Int)))) = _
    rw [show (a : Int) - (b : Int) = ((a - b : Nat) : Int) by omega, wrapU_nat, Nat.mod_eq_of_lt (by omega)]
    rfl)
theorem k_convU (hx : evK l x = some (nA a)) (ha : a < 9223372036854775808) : XV cf l H n (.conv .u64 x) = some (uA a, H) :=
  k_any (by
    simp only [xval, xop, hx, nA]
    rw [wrapU_nat, Nat.mod_eq_of_lt (by omega)]
    rfl)
theorem k_convI (hx : evK l x = some (uA a)) (ha : a < 9223372036854775808) : XV cf l H n (.conv .i64 x) = some (nA a, H) :=
  k_any (by
    simp only [xval, xop, hx, uA]
    rw [wrapI _ (by omega) (by omega)]
    rfl)
end
theorem x100 {cf : CF} {fuel : Nat} {H0 H : AHeap} {s n : Nat} {rest : List AV} {opn : Option Nat} {d : Array Int} {w x : Nat} (hS : SS H0 s rest opn n H d) (hW : SW H w (uA x)) (hw : H0.next ≤ w) (hs : s < H0.next) (hx : x < 18446744073709551616) :
    ∃ v H', xfunc cf fuel L100 [.ptr w 0] H = some (v, H') ∧ v = uA (Sort.xorNextN x) ∧ SS H0 s rest opn n H' d ∧ SW H' w (uA (Sort.xorNextN x)) := by
  refine xfunc_ofK rfl (by show 1 ≤ 33; omega) ?_
  obtain ⟨S, hS1⟩ : ∃ S, x * 8192 % 18446744073709551616 = S := ⟨_, rfl⟩
  have q1 : S < 18446744073709551616 := by omega
  obtain ⟨A, hA⟩ : ∃ A, x ^^^ S = A := ⟨_, rfl⟩
  have a1 : A < 18446744073709551616 := by rw [← hA]; exact Nat.xor_lt_two_pow (n := 64) (by omega) (by omega)
  obtain ⟨T, hT⟩ : ∃ T, A / 128 = T := ⟨_, rfl⟩
  have q2 : T < 18446744073709551616 := by omega
  obtain ⟨B, hB⟩ : ∃ B, A ^^^ T = B := ⟨_, rfl⟩
  have b1 : B < 18446744073709551616 := by rw [← hB]; exact Nat.xor_lt_two_pow (n := 64) (by omega) (by omega)
  obtain ⟨U, hU⟩ : ∃ U, B * 131072 % 18446744073709551616 = U := ⟨_, rfl⟩
  have q3 : U < 18446744073709551616 := by omega
  obtain ⟨C, hC⟩ : ∃ C, Sort.xorNextN x = C := ⟨_, rfl⟩
  have hC' : B ^^^ U = C := by rw [← hC, Sort.xorNextN]; simp only [hS1, hA, hT, hB, hU]
  rw [hC]
  clear hC
  have s1 : ∀ {l : KL0} {H : AHeap} {n : Nat} {p q : XO}, evK l p = some (uA x) → evK l q = some (.int .u64 (.ofNat 13)) → XV cf l H n (.bin .shl p q) = some (uA S, H) := fun {l H n p q} h1 h2 => by
    have h := k_shlU (cf := cf) (H := H) (n := n) (k := 13) h1 h2 (by decide)
    rw [show (2 : Nat) ^ 13 = 8192 from rfl, hS1] at h
    exact h
  have s2 : ∀ {l : KL0} {H : AHeap} {n : Nat} {p q : XO}, evK l p = some (uA A) → evK l q = some (.int .u64 (.ofNat 7)) → XV cf l H n (.bin .shr p q) = some (uA T, H) := fun {l H n p q} h1 h2 => by
    have h := k_shrU (cf := cf) (H := H) (n := n) (k := 7) h1 h2 (by decide)
    rw [show (2 : Nat) ^ 7 = 128 from rfl, hT] at h
    exact h
  have s3 : ∀ {l : KL0} {H : AHeap} {n : Nat} {p q : XO}, evK l p = some (uA B) → evK l q = some (.int .u64 (.ofNat 17)) → XV cf l H n (.bin .shl p q) = some (uA U, H) := fun {l H n p q} h1 h2 => by
    have h := k_shlU (cf := cf) (H := H) (n := n) (k := 17) h1 h2 (by decide)
    rw [show (2 : Nat) ^ 17 = 131072 from rfl, hU] at h
    exact h
  have k1 : ∀ {l : KL0} {H : AHeap} {n : Nat} {p q : XO}, evK l p = some (uA x) → evK l q = some (uA S) → XV cf l H n (.bin .xor p q) = some (uA A, H) := fun h1 h2 => hA ▸ k_xorU h1 h2 hx q1
  have k2 : ∀ {l : KL0} {H : AHeap} {n : Nat} {p q : XO}, evK l p = some (uA A) → evK l q = some (uA T) → XV cf l H n (.bin .xor p q) = some (uA B, H) := fun h1 h2 => hB ▸ k_xorU h1 h2 a1 q2
  have k3 : ∀ {l : KL0} {H : AHeap} {n : Nat} {p q : XO}, evK l p = some (uA B) → evK l q = some (uA U) → XV cf l H n (.bin .xor p q) = some (uA C, H) := fun h1 h2 => hC' ▸ k_xorU h1 h2 b1 q3
  clear hS1 hA hT hB hU hC'
  unfold L100
  dsimp only
  repeat' (first | refine WK.seq ?_ | refine WK.ret ?_ | (apply WK.reg; (· exact lnn)) | (apply WK.regd0; (· exact lnn)) | (apply WKO.stW; (· rfl); (· rfl); (· assumption); (· assumption); (· rfl); (· first | (simp only [next_bump]; omega)); (· first | omega); (· omega); (· rfl); (· rfl); intro _ _ _ _) | refine WKO.nil ?_ | ((first | apply WKO.op); (· first | exact k_mv rfl | exact s1 rfl rfl | exact s2 rfl rfl | exact s3 rfl rfl | exact k1 rfl rfl | exact k2 rfl rfl | exact k3 rfl rfl | exact k_nilc rfl | (apply k_ldW; (· rfl); (· assumption); (· rfl))); (· rfl)) | refine pN ?_ | fail)
  exact ⟨fun _ => by simp, _, rfl, rfl, (by apply SS.up; (· assumption); (· rfl); (· first | omega | (simp only [next_bump]; omega))), (by apply SW.up; (· assumption); (· rfl))⟩
def K86 (cf : CF) : Prop := ∀ m H, m ≤ 1024 → cf 86 [uA m] H = some (nA (Sort.bitsLen m), H)
theorem len_b {m : Nat} (h : m ≤ 1024) : Sort.bitsLen m ≤ 11 := (Sort.bitsLen_le_iff m 11).2 (by omega)
theorem x99 {cf : CF} {fuel : Nat} {H : AHeap} {m : Nat} (h86 : K86 cf) (hm : m ≤ 1024) :
    ∃ v H', xfunc cf fuel L99 [nA m] H = some (v, H') ∧ v = uA (1 <<< Sort.bitsLen m) ∧ H'.m = H.m ∧ H.next ≤ H'.next := by
  refine xfunc_ofK rfl (by show 1 ≤ 7; omega) ?_
  have hb := len_b hm
  obtain ⟨L, hL⟩ : ∃ L, Sort.bitsLen m = L := ⟨_, rfl⟩
  have h86' : ∀ H, cf 86 [uA m] H = some (nA L, H) := fun H => hL ▸ h86 m H hm
  rw [hL] at hb ⊢
  have e : 1 * 2 ^ L % 18446744073709551616 = 1 <<< L := by
    rw [Nat.one_shiftLeft, Nat.one_mul, Nat.mod_eq_of_lt]
    exact Nat.lt_of_le_of_lt (Nat.pow_le_pow_right (by omega) (show L ≤ 63 by omega)) (by decide)
  have k1 : ∀ {l : KL0} {H : AHeap} {n : Nat} {p q : XO}, evK l p = some (uA 1) → evK l q = some (nA L) → XV cf l H n (.bin .shl p q) = some (uA (1 <<< L), H) := fun h1 h2 => e ▸ k_shlU h1 h2 (by omega)
  unfold L99
  dsimp only
  repeat' (first | refine WK.seq ?_ | refine WK.ret ?_ | (apply WK.reg; (· exact lnn)) | refine WKO.nil ?_ | ((first | apply WKO.op); (· first | exact k_mv rfl | exact k_convU rfl (by omega) | exact k_call rfl rfl (h86' _) | exact k1 rfl rfl); (· rfl)) | refine pN ?_ | fail)
  exact ⟨fun _ => by simp, _, rfl, rfl, rfl, by simp only [next_bump]; omega⟩
def brN (a len M : Nat) : Nat → Nat → UInt64 × Array Int → UInt64 × Array Int
  | 0, _, st => st
  | s + 1, idx, st => brN a len M s (idx + 1) (Sort.breakStep a len M st idx)
theorem brk_eq {d : Array Int} {a b : Nat} (h : b - a ≥ 8) : Sort.breakPatterns d a b = (brN a (b - a) (1 <<< Sort.bitsLen (b - a)) 3 (a + (b - a) / 4 * 2 - 1) (UInt64.ofNat (b - a), d)).2 := by
  simp only [Sort.breakPatterns, if_pos h]
  rfl
def K99 (cf : CF) : Prop := ∀ m H, m ≤ 1024 → ∃ H', cf 99 [nA m] H = some (uA (1 <<< Sort.bitsLen m), H') ∧ H'.m = H.m ∧ H.next ≤ H'.next
def K100 (cf : CF) (s n : Nat) (rest : List AV) (opn : Option Nat) : Prop := ∀ {H0 H : AHeap} {d : Array Int} {w x : Nat}, SS H0 s rest opn n H d → SW H w (uA x) → H0.next ≤ w → s < H0.next → x < 18446744073709551616 →
  ∃ H', cf 100 [.ptr w 0] H = some (uA (Sort.xorNextN x), H') ∧ SS H0 s rest opn n H' d ∧ SW H' w (uA (Sort.xorNextN x))
theorem SS.upE {H0 H H' : AHeap} {i : Nat} {rest : List AV} {opn : Option Nat} {m : Nat} {d : Array Int} (h : H'.m = H.m ∧ H.next ≤ H'.next) (hS : SS H0 i rest opn m H d) : SS H0 i rest opn m H' d := hS.up h.1 h.2
set_option maxHeartbeats 1000000 in
theorem x89 {cf : CF} {fuel : Nat} {H0 H : AHeap} {s c n : Nat} {rest : List AV} {opn : Option Nat} {d : Array Int} {a b : Nat} (h99 : K99 cf) (h100 : K100 cf s n rest opn) (hS : SS H0 s rest opn n H d) (hs : s < H0.next) (hab : a < b) (hb : b ≤ n) (hsz : n ≤ 1024) (hf : 4 < fuel) :
    ∃ v H', xfunc cf fuel L89 [.sl s 0 n c, nA a, nA b] H = some (v, H') ∧ v = .tup [] ∧ SS H0 s rest opn n H' (Sort.breakPatterns d a b) := by
  refine xfunc_ofK rfl (by show 3 ≤ 65; omega) ?_
  have hnx := hS.nx
  have hr : ∀ r : UInt64, r.toNat < 18446744073709551616 := fun r => UInt64.toNat_lt r
  obtain ⟨M, hM⟩ : ∃ M, 1 <<< Sort.bitsLen (b - a) = M := ⟨_, rfl⟩
  have hM2 : M ≤ 2 * (b - a) := by rw [← hM, Nat.one_shiftLeft]; exact Sort.two_pow_bitsLen_le (by omega)
  have hM1 : 1 ≤ M := by rw [← hM, Nat.one_shiftLeft]; exact Nat.two_pow_pos _
  have h99' : ∀ H, ∃ H', cf 99 [nA (b - a)] H = some (uA M, H') ∧ H'.m = H.m ∧ H.next ≤ H'.next := fun H => hM ▸ h99 (b - a) H (by omega)
  unfold L89
  dsimp only
  repeat' (first | refine WK.seq ?_ | refine WK.skip ?_ | refine WK.block ?_ | (apply WK.reg; (· exact lnn)) | (refine WKO.callE rfl rfl rfl (h99' _) ?_; intro H2 hH2; have hS2 := SS.upE hH2 (by apply SS.up; (· assumption); (· rfl); (· first | omega | (simp only [next_bump]; omega))); have hW2 := SW.up (by apply SW.up; (· assumption); (· rfl)) hH2.1) | (apply WKO.stW; (· rfl); (· rfl); (· assumption); (· assumption); (· rfl); (· first | omega); (· first | (simp only [next_bump]; omega)); (· omega); (· rfl); (· rfl); intro _ _ _ _) | (apply WKO.alW; (· assumption); (· rfl); (· first | (simp only [next_bump]; omega)); (· assumption); (· first | (simp only [next_bump]; omega)); intro _ _ _ _) | refine WKO.nil ?_ | ((first | apply WKO.op); (· first | exact k_mv rfl | exact k_convU rfl (by omega) | exact opA); (· rfl)) | refine pN ?_ | (apply WK.condD; (· rfl); all_goals intro _) | fail)
  · have hw0 : H0.next ≤ ((H.bump 4).bump 2).next + 1 + 1 := by simp only [next_bump]; omega
    generalize hw : ((H.bump 4).bump 2).next + 1 + 1 = w at *
    have hws : w ≠ s := by omega
    have h100' : ∀ {H : AHeap} {d : Array Int} {r : UInt64}, SS H0 s rest opn n H d → SW H w (uA r.toNat) → ∃ H', cf 100 [.ptr w 0] H = some (uA (Sort.xorNext r).toNat, H') ∧ SS H0 s rest opn n H' d ∧ SW H' w (uA (Sort.xorNext r).toNat) := fun h1 h2 => by
      rw [Sort.xorNext_toNat]
      exact h100 h1 h2 hw0 hs (UInt64.toNat_lt _)
    refine WK.loop (α := Nat × UInt64 × Array Int) (fun p => [(0, .sl s 0 n c), (1, nA a), (6, nA (b - a)), (7, .ptr w 0), (8, uA M), (9, nA (a + (b - a) / 4 * 2 - 1 + p.1))]) (fun p H => p.1 ≤ 3 ∧ (brN a (b - a) M (3 - p.1) (a + (b - a) / 4 * 2 - 1 + p.1) p.2).2 = Sort.breakPatterns d a b ∧ SS H0 s rest opn n H p.2.2 ∧ SW H w (uA p.2.1.toNat)) (fun p => 3 - p.1) (0, UInt64.ofNat (b - a), d) (.cons rfl <| .cons rfl <| .cons rfl <| .cons rfl <| .cons rfl <| .cons rfl <| .nil _) ⟨by dsimp only; omega, by rw [brk_eq (by assumption), hM]; rfl, (by apply SS.up; (· assumption); (· rfl); (· first | omega | (simp only [next_bump]; omega))), ?_⟩ (by dsimp only; omega) ?_
    · have e : (UInt64.ofNat (b - a)).toNat = b - a := by
        rw [UInt64.toNat_ofNat']
        exact Nat.mod_eq_of_lt (by omega)
      dsimp only
      rw [e]
      exact (by apply SW.up; (· assumption); (· rfl))
    rintro ⟨k, r, e⟩ H ⟨h1, h2, h3, h4⟩
    dsimp only at h1 h2 h3 h4 ⊢
    repeat' (first | refine WK.seq ?_ | refine WK.skip ?_ | refine WK.exit ?_ | refine WK.block ?_ | (apply WK.reg; (· exact lnn)) | (apply WK.regd0; (· exact lnn)) | (refine WKO.callE rfl rfl rfl (h100' (by apply SS.up; (· assumption); (· rfl); (· first | omega | (simp only [next_bump]; omega))) (by apply SW.up; (· assumption); (· rfl))) ?_; rintro _ ⟨_, _⟩; have hO := Nat.and_le_right (n := (Sort.xorNext r).toNat) (m := M - 1)) | (apply WKO.stS; (· rfl); (· rfl); (· assumption); (· rfl); (· first | omega | (simp only [next_bump]; omega)); (· omega); intro _ _ _ _) | refine WKO.nil ?_ | ((first | apply WKO.op); (· first | exact k_mv rfl | exact k_subU rfl rfl (by omega) (by omega) | exact k_andU rfl rfl (hr _) (by omega) | exact k_convI rfl (by omega) | (apply k_iaS; (· rfl); (· rfl); (· omega)) | (apply k_ldS; (· rfl); (· assumption); (· rfl); (· omega)) | exact opA); (· rfl)) | refine pN ?_ | refine pX ?_ | refine bN ?_ | refine bX ?_ | (apply WK.condD; (· rfl); all_goals intro _) | fail)
    · refine ⟨(k + 1, Sort.xorNext r, Sort.swp e (a + (b - a) / 4 * 2 - 1 + k) (a + (((Sort.xorNext r).toNat &&& M - 1) - (b - a)))), (.cons rfl <| .cons rfl <| .cons rfl <| .cons rfl <| .cons rfl <| .cons rfl <| .nil _), ⟨by dsimp only; omega, ?_, (by apply SS.up; (· assumption); (· rfl); (· first | omega | (simp only [next_bump]; omega))), ?_⟩, by dsimp only; omega⟩
      · rw [show 3 - k = (3 - (k + 1)) + 1 by omega, brN, Sort.breakStep] at h2
        have hc : (Sort.xorNext r).toNat &&& M - 1 ≥ b - a := by assumption
        simp only [if_pos hc] at h2
        exact h2
      · apply SW.up (hm := rfl); apply SW.fr (by assumption) hws; apply SW.fr (by assumption) hws; exact (by apply SW.up; (· assumption); (· rfl))
    · refine ⟨(k + 1, Sort.xorNext r, Sort.swp e (a + (b - a) / 4 * 2 - 1 + k) (a + ((Sort.xorNext r).toNat &&& M - 1))), (.cons rfl <| .cons rfl <| .cons rfl <| .cons rfl <| .cons rfl <| .cons rfl <| .nil _), ⟨by dsimp only; omega, ?_, (by apply SS.up; (· assumption); (· rfl); (· first | omega | (simp only [next_bump]; omega))), ?_⟩, by dsimp only; omega⟩
      · rw [show 3 - k = (3 - (k + 1)) + 1 by omega, brN, Sort.breakStep] at h2
        have hc : ¬ (Sort.xorNext r).toNat &&& M - 1 ≥ b - a := by assumption
        simp only [if_neg hc] at h2
        exact h2
      · apply SW.up (hm := rfl); apply SW.fr (by assumption) hws; apply SW.fr (by assumption) hws; exact (by apply SW.up; (· assumption); (· rfl))
    · refine ⟨fun _ => by simp, _, rfl, rfl, ?_⟩
      rw [show 3 - k = 0 by omega, brN] at h2
      rw [← h2]
      exact (by apply SS.up; (· assumption); (· rfl); (· first | omega | (simp only [next_bump]; omega)))
  · refine ⟨fun _ => by simp, _, rfl, rfl, ?_⟩
    rw [Sort.breakPatterns, if_neg (by assumption)]
    exact (by apply SS.up; (· assumption); (· rfl); (· first | omega | (simp only [next_bump]; omega)))
end Go.Proofs.Ytpbighinamljbaa.PA
namespace Go.Proofs.Ytpbighinamljbaa.PA
open Go Go.Eng Go.Proofs
theorem swo6 : Sort.SWO lt6 := by rw [lt6_eq]; exact Sort.swo_ltInt
theorem pdq_rest {d : Array Int} {a b limit : Nat} {wb wp : Bool} {d1 d2 : Array Int} {l1 pv : Nat} {c : Nat × Sort.Hint} {hint : Sort.Hint} {pi : Array Int × Bool} (h12 : ¬ b - a ≤ 12) (h0 : ¬ limit = 0)
    (hd1 : (if !wb then Sort.breakPatterns d a b else d) = d1) (hl1 : (if !wb then limit - 1 else limit) = l1) (hc : Sort.choosePivot lt6 d1 a b = c)
    (hd2 : (if c.2 = .decreasing then Sort.reverseRange d1 a b else d1) = d2) (hpv : (if c.2 = .decreasing then (b - 1) - (c.1 - a) else c.1) = pv) (hh : (if c.2 = .decreasing then Sort.Hint.increasing else c.2) = hint)
    (hpi : (if wb && wp && hint = .increasing then Sort.partialInsertionSort lt6 d2 a b else (d2, false)) = pi) :
    Sort.pdq lt6 d a b limit wb wp = if pi.2 then pi.1 else
      if a > 0 && !lt6 pi.1[a - 1]! pi.1[pv]! then
        match Sort.partitionEqual lt6 pi.1 a b pv with
        | (mid, d4) => if _h : a < mid ∧ mid ≤ b then Sort.pdq lt6 d4 mid b l1 wb wp else d4
      else
        match Sort.partition lt6 pi.1 a b pv with
        | (mid, alreadyPartitioned, d4) =>
          if _h : a ≤ mid ∧ mid < b then
            if mid - a < b - mid then
              Sort.pdq lt6 (Sort.pdq lt6 d4 a mid l1 true true) (mid + 1) b l1 (decide (mid - a ≥ (b - a) / 8)) alreadyPartitioned
            else
              Sort.pdq lt6 (Sort.pdq lt6 d4 (mid + 1) b l1 true true) a mid l1 (decide (b - mid ≥ (b - a) / 8)) alreadyPartitioned
          else d4 := by
  subst hpi hh hpv hd2 hc hl1 hd1
  rw [Sort.pdq, if_neg h12, if_neg h0]
structure KP (cf : CF) (s c n : Nat) (rest : List AV) (opn : Option Nat) : Prop where
  less : Less cf
  k87 : ∀ {H0 H : AHeap} {d : Array Int} {a b : Nat}, SS H0 s rest opn n H d → a ≤ b → b ≤ n → ∃ H', cf 87 [.sl s 0 n c, nA a, nA b] H = some (.tup [], H') ∧ SS H0 s rest opn n H' (Sort.insertionSort lt6 d a b)
  k88 : ∀ {H0 H : AHeap} {d : Array Int} {a b : Nat}, SS H0 s rest opn n H d → a < b → b ≤ n → ∃ H', cf 88 [.sl s 0 n c, nA a, nA b] H = some (.tup [], H') ∧ SS H0 s rest opn n H' (Sort.heapSort lt6 d a b)
  k89 : ∀ {H0 H : AHeap} {d : Array Int} {a b : Nat}, SS H0 s rest opn n H d → s < H0.next → a < b → b ≤ n → ∃ H', cf 89 [.sl s 0 n c, nA a, nA b] H = some (.tup [], H') ∧ SS H0 s rest opn n H' (Sort.breakPatterns d a b)
  k90 : ∀ {H0 H : AHeap} {d : Array Int} {a b : Nat}, SS H0 s rest opn n H d → s < H0.next → a < b → b ≤ n → ∃ H', cf 90 [.sl s 0 n c, nA a, nA b] H = some (.tup [nA (Sort.choosePivot lt6 d a b).1, nA (hintN (Sort.choosePivot lt6 d a b).2)], H') ∧ SS H0 s rest opn n H' d
  k91 : ∀ {H0 H : AHeap} {d : Array Int} {a b : Nat}, SS H0 s rest opn n H d → a < b → b ≤ n → ∃ H', cf 91 [.sl s 0 n c, nA a, nA b] H = some (.tup [], H') ∧ SS H0 s rest opn n H' (Sort.reverseRange d a b)
  k92 : ∀ {H0 H : AHeap} {d : Array Int} {a b : Nat}, SS H0 s rest opn n H d → a < b → b ≤ n → ∃ H', cf 92 [.sl s 0 n c, nA a, nA b] H = some (.bool (Sort.partialInsertionSort lt6 d a b).2, H') ∧ SS H0 s rest opn n H' (Sort.partialInsertionSort lt6 d a b).1
  k94 : ∀ {H0 H : AHeap} {d : Array Int} {a b pv : Nat}, SS H0 s rest opn n H d → a ≤ pv → pv < b → b ≤ n → ∃ H', cf 94 [.sl s 0 n c, nA a, nA b, nA pv] H = some (nA (Sort.partitionEqual lt6 d a b pv).1, H') ∧ SS H0 s rest opn n H' (Sort.partitionEqual lt6 d a b pv).2 ∧ a < (Sort.partitionEqual lt6 d a b pv).1 ∧ (Sort.partitionEqual lt6 d a b pv).1 ≤ b
  k95 : ∀ {H0 H : AHeap} {d : Array Int} {a b pv : Nat}, SS H0 s rest opn n H d → a ≤ pv → pv < b → b ≤ n → ∃ H', cf 95 [.sl s 0 n c, nA a, nA b, nA pv] H = some (.tup [nA (Sort.partition lt6 d a b pv).1, .bool (Sort.partition lt6 d a b pv).2.1], H') ∧ SS H0 s rest opn n H' (Sort.partition lt6 d a b pv).2.2
def K85 (cf : CF) (s c n : Nat) (rest : List AV) (opn : Option Nat) (N : Nat) : Prop := ∀ {H0 H : AHeap} {d : Array Int} {a b limit : Nat}, SS H0 s rest opn n H d → s < H0.next → a ≤ b → b ≤ n → b - a < N → limit ≤ 64 →
  ∃ H', cf 85 [.sl s 0 n c, nA a, nA b, nA limit] H = some (.tup [], H') ∧ SS H0 s rest opn n H' (Sort.pdq lt6 d a b limit true true)
theorem hint1 {h : Sort.Hint} (q : hintN h = 1) : h = .increasing := by cases h <;> first | rfl | cases q
set_option maxHeartbeats 4000000 in
theorem x85 {cf : CF} {fuel : Nat} {H0 H : AHeap} {s c n N : Nat} {rest : List AV} {opn : Option Nat} {d : Array Int} {a0 b0 limit0 : Nat} (hk : KP cf s c n rest opn) (h85 : K85 cf s c n rest opn N) (hS : SS H0 s rest opn n H d) (hs : s < H0.next) (hab : a0 ≤ b0) (hb0 : b0 ≤ n) (hN : b0 - a0 < 2 * N ∨ b0 - a0 ≤ 12) (hlim : limit0 ≤ 64) (hsz : n ≤ 1024) (hf : n + 6 < fuel) :
    ∃ v H', xfunc cf fuel L85 [.sl s 0 n c, nA a0, nA b0, nA limit0] H = some (v, H') ∧ v = .tup [] ∧ SS H0 s rest opn n H' (Sort.pdq lt6 d a0 b0 limit0 true true) := by
  refine xfunc_ofK rfl (by show 4 ≤ 134; omega) ?_
  unfold L85
  dsimp only
  repeat' (first | refine WK.seq ?_ | refine WK.block ?_ | (apply WK.reg; (· exact lnn)) | refine WKO.nil ?_ | ((first | apply WKO.op); (· first | exact k_mv rfl); (· rfl)) | refine pN ?_ | fail)
  refine WK.loop (α := Nat × Nat × Nat × Bool × Bool × Array Int) (fun p => [(0, .sl s 0 n c), (1, nA p.1), (2, nA p.2.1), (3, nA p.2.2.1), (8, .bool p.2.2.2.1), (9, .bool p.2.2.2.2.1)])
    (fun p H => p.1 ≤ p.2.1 ∧ p.2.1 ≤ n ∧ (p.2.1 - p.1 < 2 * N ∨ p.2.1 - p.1 ≤ 12) ∧ p.2.2.1 ≤ 64 ∧ Sort.pdq lt6 p.2.2.2.2.2 p.1 p.2.1 p.2.2.1 p.2.2.2.1 p.2.2.2.2.1 = Sort.pdq lt6 d a0 b0 limit0 true true ∧ SS H0 s rest opn n H p.2.2.2.2.2) (fun p => p.2.1 - p.1) (a0, b0, limit0, true, true, d) (.cons rfl <| .cons rfl <| .cons rfl <| .cons rfl <| .cons rfl <| .cons rfl <| .nil _) ⟨hab, hb0, hN, hlim, rfl, (by apply SS.up; (· assumption); (· rfl); (· first | omega | (simp only [next_bump]; omega)))⟩ (by dsimp only; omega) ?_
  rintro ⟨a, b, limit, wb, wp, e⟩ H ⟨h1, h2, h3, h4, h5, h6⟩
  dsimp only at h1 h2 h3 h4 h5 h6 ⊢
  repeat' (first | (refine WK.stop4 ?_) | refine WK.seq ?_ | refine WK.block ?_ | (apply WK.reg; (· exact lnn)) | refine WKO.nil ?_ | ((first | apply WKO.op); (· first | exact k_mv rfl | exact opA); (· rfl)) | refine pN ?_ | fail)
  refine Stop.mk (WK.seq ?_)
  repeat' (first | (refine WK.stop4 ?_) | refine WK.seq ?_ | refine WK.skip ?_ | refine WK.ret ?_ | (apply WK.reg; (· exact lnn)) | (refine WKO.callE rfl rfl rfl (hk.k87 (by apply SS.up; (· assumption); (· rfl); (· first | omega | (simp only [next_bump]; omega))) (by omega) (by omega)) ?_; intro _ _) | refine WKO.nil ?_ | ((first | apply WKO.op); (· first | exact k_mv rfl | exact opA); (· rfl)) | refine pN ?_ | refine pR ?_ | refine bR ?_ | (apply WK.condD; (· rfl); all_goals intro _) | fail)
  · refine ⟨fun _ => by simp, _, rfl, rfl, ?_⟩
    rw [← h5, Sort.pdq, if_pos (by assumption)]
    exact (by apply SS.up; (· assumption); (· rfl); (· first | omega | (simp only [next_bump]; omega)))
  refine Stop.mk (WK.seq ?_)
  repeat' (first | (refine WK.stop4 ?_) | refine WK.seq ?_ | refine WK.skip ?_ | refine WK.ret ?_ | (apply WK.reg; (· exact lnn)) | (refine WKO.callE rfl rfl rfl (hk.k88 (by apply SS.up; (· assumption); (· rfl); (· first | omega | (simp only [next_bump]; omega))) (by omega) (by omega)) ?_; intro _ _) | refine WKO.nil ?_ | ((first | apply WKO.op); (· first | exact k_mv rfl | exact opA); (· rfl)) | refine pN ?_ | refine pR ?_ | refine bR ?_ | (apply WK.condD; (· rfl); all_goals intro _) | fail)
  · refine ⟨fun _ => by simp, _, rfl, rfl, ?_⟩
    rw [← h5, Sort.pdq, if_neg (by assumption), if_pos (by assumption)]
    exact (by apply SS.up; (· assumption); (· rfl); (· first | omega | (simp only [next_bump]; omega)))
  obtain ⟨d1, hd1⟩ : ∃ d1, (if !wb then Sort.breakPatterns e a b else e) = d1 := ⟨_, rfl⟩
  obtain ⟨l1, hl1⟩ : ∃ l1, (if !wb then limit - 1 else limit) = l1 := ⟨_, rfl⟩
  have hl64 : l1 ≤ 64 := by rw [← hl1]; split <;> omega
  obtain ⟨⟨c0, ch⟩, hc⟩ : ∃ c, Sort.choosePivot lt6 d1 a b = c := ⟨_, rfl⟩
  obtain ⟨d2, hd2⟩ : ∃ d2, (if ch = .decreasing then Sort.reverseRange d1 a b else d1) = d2 := ⟨_, rfl⟩
  obtain ⟨pv, hpv⟩ : ∃ pv, (if ch = .decreasing then (b - 1) - (c0 - a) else c0) = pv := ⟨_, rfl⟩
  obtain ⟨hint, hh⟩ : ∃ hint, (if ch = .decreasing then Sort.Hint.increasing else ch) = hint := ⟨_, rfl⟩
  obtain ⟨pi, hpi⟩ : ∃ pi, (if wb && wp && hint = .increasing then Sort.partialInsertionSort lt6 d2 a b else (d2, false)) = pi := ⟨_, rfl⟩
  have hR := pdq_rest (limit := limit) (by assumption) (by assumption) hd1 hl1 hc hd2 hpv hh hpi
  rw [h5] at hR
  have hcr := Sort.choosePivot_holds lt6 d1 a b (by omega)
  rw [hc] at hcr
  have hpr : a ≤ pv ∧ pv < b := by rw [← hpv]; dsimp only at hcr; split <;> omega
  refine Stop.mk (WK.cut (α := Unit) (fun _ => [(0, .sl s 0 n c), (1, nA a), (2, nA b), (3, nA l1), (8, .bool wb), (9, .bool wp), (10, nA (b - a))]) (fun _ H => SS H0 s rest opn n H d1) ?_ ?_)
  · repeat' (first | refine WK.seq ?_ | refine WK.skip ?_ | (apply WK.reg; (· exact lnn)) | (refine WKO.callE rfl rfl rfl (hk.k89 (by apply SS.up; (· assumption); (· rfl); (· first | omega | (simp only [next_bump]; omega))) hs (by omega) (by omega)) ?_; intro _ _) | refine WKO.nil ?_ | ((first | apply WKO.op); (· first | exact k_mv rfl | exact opA); (· rfl)) | refine pN ?_ | (apply WK.condN; (· rfl); all_goals intro _) | fail)
    · have hw : wb = false := (by assumption)
      subst hw
      rw [if_pos (by rfl)] at hd1 hl1
      subst hd1 hl1
      exact ⟨(), (.cons rfl <| .cons rfl <| .cons rfl <| .cons rfl <| .cons rfl <| .cons rfl <| .cons rfl <| .nil _), (by apply SS.up; (· assumption); (· rfl); (· first | omega | (simp only [next_bump]; omega)))⟩
    · have hw : wb = true := (by assumption)
      subst hw
      rw [if_neg (by decide)] at hd1 hl1
      subst hd1 hl1
      exact ⟨(), (.cons rfl <| .cons rfl <| .cons rfl <| .cons rfl <| .cons rfl <| .cons rfl <| .cons rfl <| .nil _), (by apply SS.up; (· assumption); (· rfl); (· first | omega | (simp only [next_bump]; omega)))⟩
  rintro _ H hd
  have h90 : ∀ {H : AHeap}, SS H0 s rest opn n H d1 → ∃ H', cf 90 [.sl s 0 n c, nA a, nA b] H = some (.tup [nA c0, nA (hintN ch)], H') ∧ SS H0 s rest opn n H' d1 := fun q => by
    have := hk.k90 q hs (a := a) (b := b) (by omega) h2
    rw [hc] at this
    exact this
  dsimp only at hcr
  repeat' (first | (refine WK.stop4 ?_) | refine WK.seq ?_ | (apply WK.reg; (· exact lnn)) | (refine WKO.callE rfl rfl rfl (h90 (by apply SS.up; (· assumption); (· rfl); (· first | omega | (simp only [next_bump]; omega)))) ?_; intro _ _) | refine WKO.nil ?_ | ((first | apply WKO.op); (· first | exact k_mv rfl | exact opA); (· rfl)) | refine pN ?_ | fail)
  refine Stop.mk (WK.cut (α := Unit) (fun _ => [(0, .sl s 0 n c), (1, nA a), (2, nA b), (3, nA l1), (8, .bool wb), (9, .bool wp), (10, nA (b - a)), (11, nA pv), (12, nA (hintN hint))]) (fun _ H => SS H0 s rest opn n H d2) ?_ ?_)
  · repeat' (first | refine WK.seq ?_ | refine WK.skip ?_ | (apply WK.reg; (· exact lnn)) | (refine WKO.callE rfl rfl rfl (hk.k91 (by apply SS.up; (· assumption); (· rfl); (· first | omega | (simp only [next_bump]; omega))) (by omega) (by omega)) ?_; intro _ _) | refine WKO.nil ?_ | ((first | apply WKO.op); (· first | exact k_mv rfl | exact opA); (· rfl)) | refine pN ?_ | (apply WK.condD; (· rfl); all_goals intro _) | fail)
    · have hq : hintN ch = 2 := (by assumption)
      cases ch with
      | unknown => cases hq
      | increasing => cases hq
      | decreasing =>
        rw [if_pos rfl] at hd2 hpv hh
        subst hd2 hpv hh
        exact ⟨(), (.cons rfl <| .cons rfl <| .cons rfl <| .cons rfl <| .cons rfl <| .cons rfl <| .cons rfl <| .cons rfl <| .cons rfl <| .nil _), (by apply SS.up; (· assumption); (· rfl); (· first | omega | (simp only [next_bump]; omega)))⟩
    · have hq : ¬ hintN ch = 2 := (by assumption)
      have hq' : ch ≠ .decreasing := by intro w; subst w; exact hq rfl
      rw [if_neg hq'] at hd2 hpv hh
      subst hd2 hpv hh
      exact ⟨(), (.cons rfl <| .cons rfl <| .cons rfl <| .cons rfl <| .cons rfl <| .cons rfl <| .cons rfl <| .cons rfl <| .cons rfl <| .nil _), (by apply SS.up; (· assumption); (· rfl); (· first | omega | (simp only [next_bump]; omega)))⟩
  rintro _ H hd
  repeat' (first | (refine WK.stop4 ?_) | fail)
  refine Stop.mk (WK.cut (α := Unit) (fun _ => [(0, .sl s 0 n c), (1, nA a), (2, nA b), (3, nA l1), (8, .bool wb), (9, .bool wp), (10, nA (b - a)), (11, nA pv)]) (fun _ H => pi.2 = false ∧ SS H0 s rest opn n H pi.1) ?_ ?_)
  · repeat' (first | refine WK.seq ?_ | refine WK.skip ?_ | refine WK.ret ?_ | (apply WK.reg; (· exact lnn)) | (refine WKO.callE rfl rfl rfl (hk.k92 (by apply SS.up; (· assumption); (· rfl); (· first | omega | (simp only [next_bump]; omega))) (by omega) (by omega)) ?_; intro _ _) | refine WKO.nil ?_ | ((first | apply WKO.op | ((first | apply WKO.gop); (· rfl); (· exact dcd))); (· first | exact k_mv rfl | exact opA); (· rfl)) | ((first | apply WKO.gnoT); (· rfl); (· exact dcd)) | ((first | apply WKO.gspB); (· rfl); all_goals ((fail_if_success (refine known ?_ ?_; (· assumption))); intro _)) | refine pN ?_ | refine pR ?_ | refine bR ?_ | (apply WK.condF; (· rfl); (· exact dcd)) | (apply WK.condD; (· rfl); all_goals intro _) | (apply WK.condB; (· rfl); all_goals intro _) | fail)
    · have q1 : wb = true := (by assumption)
      have q2 : wp = true := (by assumption)
      have q3 : hint = .increasing := hint1 (by assumption)
      rw [q1, q2, q3, if_pos (by rfl)] at hpi
      subst hpi
      refine ⟨fun _ => by simp, _, rfl, rfl, ?_⟩
      rw [hR, if_pos (by assumption)]
      exact (by apply SS.up; (· assumption); (· rfl); (· first | omega | (simp only [next_bump]; omega)))
    · have q1 : wb = true := (by assumption)
      have q2 : wp = true := (by assumption)
      have q3 : hint = .increasing := hint1 (by assumption)
      rw [q1, q2, q3, if_pos (by rfl)] at hpi
      subst hpi
      exact ⟨(), (.cons rfl <| .cons rfl <| .cons rfl <| .cons rfl <| .cons rfl <| .cons rfl <| .cons rfl <| .cons rfl <| .nil _), (by assumption), (by apply SS.up; (· assumption); (· rfl); (· first | omega | (simp only [next_bump]; omega)))⟩
    · have q3 : ¬ hint = .increasing := fun w => ((by assumption) : ¬ hintN hint = 1) (by rw [w]; rfl)
      rw [if_neg (by simp [q3])] at hpi
      subst hpi
      exact ⟨(), (.cons rfl <| .cons rfl <| .cons rfl <| .cons rfl <| .cons rfl <| .cons rfl <| .cons rfl <| .cons rfl <| .nil _), rfl, (by apply SS.up; (· assumption); (· rfl); (· first | omega | (simp only [next_bump]; omega)))⟩
    · have q3 : wp = false := (by assumption)
      rw [if_neg (by simp [q3])] at hpi
      subst hpi
      exact ⟨(), (.cons rfl <| .cons rfl <| .cons rfl <| .cons rfl <| .cons rfl <| .cons rfl <| .cons rfl <| .cons rfl <| .nil _), rfl, (by apply SS.up; (· assumption); (· rfl); (· first | omega | (simp only [next_bump]; omega)))⟩
    · have q3 : wb = false := (by assumption)
      rw [if_neg (by simp [q3])] at hpi
      subst hpi
      exact ⟨(), (.cons rfl <| .cons rfl <| .cons rfl <| .cons rfl <| .cons rfl <| .cons rfl <| .cons rfl <| .cons rfl <| .nil _), rfl, (by apply SS.up; (· assumption); (· rfl); (· first | omega | (simp only [next_bump]; omega)))⟩
  rintro _ H ⟨hp2, hd⟩
  rw [hp2, if_neg (by decide)] at hR
  have hl := hk.less
  repeat' (first | (refine WK.stop5 ?_) | fail)
  refine Stop.mk (WK.cut (α := Unit) (fun _ => [(0, .sl s 0 n c), (1, nA a), (2, nA b), (3, nA l1), (8, .bool wb), (9, .bool wp), (10, nA (b - a)), (11, nA pv)]) (fun _ H => (decide (a > 0) && !lt6 pi.1[a - 1]! pi.1[pv]!) = false ∧ SS H0 s rest opn n H pi.1) ?_ ?_)
  · repeat' (first | refine WK.seq ?_ | refine WK.skip ?_ | refine WK.exit ?_ | (apply WK.reg; (· exact lnn)) | (apply WK.regC; (· rfl); (· exact lnn); (· decide)) | (refine WKO.callE rfl rfl rfl (hk.k94 (by apply SS.up; (· assumption); (· rfl); (· first | omega | (simp only [next_bump]; omega))) (by omega) (by omega) (by omega)) ?_; rintro _ ⟨_, _, _⟩) | refine WKC.nil ?_ | refine WKO.nil ?_ | ((first | apply WKC.op | apply WKO.op | ((first | apply WKC.gop); (· rfl); (· exact dcd))); (· first | exact k_mv rfl | (apply k_iaS; (· rfl); (· rfl); (· omega)) | (apply k_ldS; (· rfl); (· assumption); (· rfl); (· omega)) | exact k_call rfl rfl (hl _ _ _) | exact opA); (· rfl)) | ((first | apply WKC.gnoT); (· rfl); (· exact dcd)) | ((first | apply WKC.gsp); (· rfl); all_goals ((fail_if_success (refine known ?_ ?_; (· assumption))); intro _)) | refine pN ?_ | refine pX ?_ | refine bX ?_ | (apply WK.condF; (· rfl); (· exact dcd)) | (apply WK.condN; (· rfl); all_goals intro _) | fail)
    · have q1 : a > 0 := (by assumption)
      have q2 : lt6 pi.1[a - 1]! pi.1[pv]! = false := (by assumption)
      rw [if_pos (by simp [q1, q2])] at hR
      have hR' : Sort.pdq lt6 d a0 b0 limit0 true true = if _h : a < (Sort.partitionEqual lt6 pi.1 a b pv).1 ∧ (Sort.partitionEqual lt6 pi.1 a b pv).1 ≤ b then Sort.pdq lt6 (Sort.partitionEqual lt6 pi.1 a b pv).2 (Sort.partitionEqual lt6 pi.1 a b pv).1 b l1 wb wp else (Sort.partitionEqual lt6 pi.1 a b pv).2 := hR
      have f1 : a < (Sort.partitionEqual lt6 pi.1 a b pv).1 := (by assumption)
      have f2 : (Sort.partitionEqual lt6 pi.1 a b pv).1 ≤ b := (by assumption)
      rw [dif_pos ⟨f1, f2⟩] at hR'
      refine ⟨((Sort.partitionEqual lt6 pi.1 a b pv).1, b, l1, wb, wp, (Sort.partitionEqual lt6 pi.1 a b pv).2), (.cons rfl <| .cons rfl <| .cons rfl <| .cons rfl <| .cons rfl <| .cons rfl <| .nil _), ⟨f2, h2, ?_, hl64, hR'.symm, (by apply SS.up; (· assumption); (· rfl); (· first | omega | (simp only [next_bump]; omega)))⟩, ?_⟩
      · show b - (Sort.partitionEqual lt6 pi.1 a b pv).1 < 2 * N ∨ b - (Sort.partitionEqual lt6 pi.1 a b pv).1 ≤ 12
        omega
      · show b - (Sort.partitionEqual lt6 pi.1 a b pv).1 < b - a
        omega
    · have q2 : lt6 pi.1[a - 1]! pi.1[pv]! = true := (by assumption)
      exact ⟨(), (.cons rfl <| .cons rfl <| .cons rfl <| .cons rfl <| .cons rfl <| .cons rfl <| .cons rfl <| .cons rfl <| .nil _), by rw [q2]; simp, (by apply SS.up; (· assumption); (· rfl); (· first | omega | (simp only [next_bump]; omega)))⟩
    · have q2 : ¬ a > 0 := (by assumption)
      exact ⟨(), (.cons rfl <| .cons rfl <| .cons rfl <| .cons rfl <| .cons rfl <| .cons rfl <| .cons rfl <| .cons rfl <| .nil _), by simp [q2], (by apply SS.up; (· assumption); (· rfl); (· first | omega | (simp only [next_bump]; omega)))⟩
  rintro _ H ⟨hp3, hd⟩
  rw [hp3, if_neg (by decide)] at hR
  obtain ⟨⟨mid, ap, d4⟩, hp⟩ : ∃ r, Sort.partition lt6 pi.1 a b pv = r := ⟨_, rfl⟩
  have hpart := Sort.partition_holds lt6 swo6 pi.1 a b pv hpr.1 hpr.2 (by rw [hd.sz]; exact h2)
  have h95 : ∀ {H : AHeap}, SS H0 s rest opn n H pi.1 → ∃ H', cf 95 [.sl s 0 n c, nA a, nA b, nA pv] H = some (.tup [nA mid, .bool ap], H') ∧ SS H0 s rest opn n H' d4 := fun q => by
    have := hk.k95 q hpr.1 hpr.2 h2
    rw [hp] at this
    exact this
  rw [hp] at hR hpart
  obtain ⟨m1, m2, _⟩ := hpart
  dsimp only at hR m1 m2
  rw [dif_pos ⟨m1, m2⟩] at hR
  repeat' (first | refine WK.seq ?_ | (apply WK.reg; (· exact lnn)) | (refine WKO.callE rfl rfl rfl (h95 (by apply SS.up; (· assumption); (· rfl); (· first | omega | (simp only [next_bump]; omega)))) ?_; intro _ _) | (refine WKO.callE rfl rfl rfl (h85 (by apply SS.up; (· assumption); (· rfl); (· first | omega | (simp only [next_bump]; omega))) hs (by omega) (by omega) (by omega) hl64) ?_; intro _ _) | refine WKO.nil ?_ | ((first | apply WKO.op); (· first | exact k_mv rfl | exact opA); (· rfl)) | refine pN ?_ | refine bN ?_ | (apply WK.condD; (· rfl); all_goals intro _) | fail)
  · rw [if_pos (by assumption)] at hR
    exact ⟨(_, _, _, _, _, _), (.cons rfl <| .cons rfl <| .cons rfl <| .cons rfl <| .cons rfl <| .cons rfl <| .nil _), ⟨by dsimp only; omega, by dsimp only; omega, by dsimp only; omega, by dsimp only; omega, hR.symm, (by apply SS.up; (· assumption); (· rfl); (· first | omega | (simp only [next_bump]; omega)))⟩, by dsimp only; omega⟩
  · rw [if_neg (by assumption)] at hR
    exact ⟨(_, _, _, _, _, _), (.cons rfl <| .cons rfl <| .cons rfl <| .cons rfl <| .cons rfl <| .cons rfl <| .nil _), ⟨by dsimp only; omega, by dsimp only; omega, by dsimp only; omega, by dsimp only; omega, hR.symm, (by apply SS.up; (· assumption); (· rfl); (· first | omega | (simp only [next_bump]; omega)))⟩, by dsimp only; omega⟩
end Go.Proofs.Ytpbighinamljbaa.PA
namespace Go
open Go.Maps
abbrev encU : Int → Value := Value.int .u16
def intOfU : Lit → Int
  | .int _ a => a
  | _ => 0
def intKeysU {H : Type} : DataW H → List Int
  | .map es => es.map fun p => intOfU p.1
  | _ => []
theorem encU_inj {x y : Int} (h : encU x = encU y) : x = y := by simpa [encU] using h
theorem Maps.keyOf_u16 {P : Program} {k : TypeId} (hk : P.underlying k = some (.int .u16)) {key : Value} {kl : Lit} (h : keyOf P k key = some kl) : ∃ x : Int, key = encU x ∧ kl = .int .u16 x ∧ (Lit.int .u16 x).wf = true := by
  cases key <;> simp [keyOf, hk, mapKey] at h
  rename_i q a
  obtain ⟨⟨rfl, hw⟩, rfl⟩ := h
  exact ⟨a, rfl, rfl, hw⟩
theorem perm_intKeysU {H : Type} {es : List (Lit × DataW H)} (hp : es.Pairwise (fun p q => p.1 ≠ q.1)) (hk : ∀ p ∈ es, ∃ x, p.1 = .int .u16 x) {ss : List Int} (hnd : ss.Nodup) (hm : ∀ x, x ∈ ss ↔ has (.map es) (.int .u16 x) = true) :
    ss.Perm (intKeysU (.map es)) := by
  refine (List.perm_ext_iff_of_nodup hnd ?_).2 fun x => ?_
  · show (es.map fun p => intOfU p.1).Nodup
    refine List.pairwise_map.2 (hp.imp_of_mem fun {p q} hp' hq' hne e => hne ?_)
    obtain ⟨a, ha⟩ := hk p hp'
    obtain ⟨b, hb⟩ := hk q hq'
    rw [ha, hb] at e ⊢
    exact congrArg _ e
  · rw [hm x, has_eq, List.any_eq_true]
    show _ ↔ x ∈ es.map fun p => intOfU p.1
    rw [List.mem_map]
    constructor
    · rintro ⟨p, hp', hs⟩
      obtain ⟨a, ha⟩ := hk p hp'
      rw [ha] at hs
      exact ⟨p, hp', by rw [ha]; simpa [Lit.sameKey, intOfU] using hs⟩
    · rintro ⟨p, hp', rfl⟩
      obtain ⟨a, ha⟩ := hk p hp'
      exact ⟨p, hp', by rw [ha]; simp [Lit.sameKey, intOfU]⟩
def CollectedU {H : Type} (D0 : DataW H) (left : Lit → Bool) (ss : List Int) : Prop := ss.Nodup ∧ ∀ x, x ∈ ss ↔ (has D0 (.int .u16 x) = true ∧ left (.int .u16 x) = false)
section
variable {H : Type} {D0 : DataW H} {left : Lit → Bool} {ss : List Int}
theorem CollectedU.start (D0 : DataW H) : CollectedU D0 (has D0) [] := ⟨List.nodup_nil, fun x => by cases has D0 (.int .u16 x) <;> simp⟩
theorem CollectedU.step (h : CollectedU D0 left ss) {x : Int} {y : DataW H} (hlk : left (.int .u16 x) = true) (hat : ∀ zd, D0.atKey (.int .u16 x) zd = y) : CollectedU D0 (fun z => left z && !z.sameKey (.int .u16 x)) (ss ++ [x]) := by
  have hhas : has D0 (.int .u16 x) = true := has_true_of_atKey hat
  have hnew : x ∉ ss := fun hx => by have := ((h.2 x).1 hx).2; rw [hlk] at this; cases this
  refine ⟨List.nodup_append.2 ⟨h.1, by simp, fun a ha b hb => by simp at hb; subst hb; exact fun e => hnew (e ▸ ha)⟩, fun y => ?_⟩
  by_cases hy : y = x
  · subst hy; simp [hhas, Lit.sameKey]
  · simp [h.2 y, hy, Lit.sameKey]
variable {P : Program} {k : TypeId} {R : Value → Option (DataW H × List MemPlace)} {w : World} {b n : Nat}
theorem CollectedU.perm (h : CollectedU D0 left ss) (hown : w.ownsMap P k R b n D0) (K : Keyed P k) (hk : P.underlying k = some (.int .u16)) (hl : ∀ kl, left kl = false) : ss.Perm (intKeysU D0) := by
  obtain ⟨es, hD, hpw, _⟩ := hown.entries K
  obtain ⟨es', hD', hko⟩ := hown.keysOf
  obtain rfl : es = es' := by rw [hD] at hD'; simpa using hD'
  subst hD
  exact perm_intKeysU hpw (fun p hp => by obtain ⟨v, hv⟩ := hko p hp; obtain ⟨x, _, hx, _⟩ := Maps.keyOf_u16 hk hv; exact ⟨x, hx⟩) h.1 (fun x => by rw [h.2 x, hl]; simp)
end
end Go
namespace Go.Proofs
open Go.RowKit Go.Maps Go.Sort Go.Shelf
structure SlLaysZU.n10 (P : Program) (ρ : Ren) : Prop where
  mixed : P.follows .mixedOrders = true
  f10 : Bears P (ρ.f 10) (SlBodyZ.n10 ρ)
  t0 : P.underlying (ρ.t 0) = some (TypeDesc.tuple #[])
  a0 : ∀ w, (isAgg (ρ.t 0)).run P w = .ok false w
  z0 : ∀ w, (Go.sizeOf (ρ.t 0)).run P w = .ok 1 w
  v0 : ∀ w, (zeroValue (ρ.t 0)).run P w = .ok (Value.tuple #[]) w
  t4 : P.underlying (ρ.t 4) = some (TypeDesc.bool)
  a4 : ∀ w, (isAgg (ρ.t 4)).run P w = .ok false w
  z4 : ∀ w, (Go.sizeOf (ρ.t 4)).run P w = .ok 1 w
  v4 : ∀ w, (zeroValue (ρ.t 4)).run P w = .ok (Value.bool false) w
  t23 : P.underlying (ρ.t 23) = some (TypeDesc.map (ρ.t 26) (ρ.t 3))
  a23 : ∀ w, (isAgg (ρ.t 23)).run P w = .ok false w
  z23 : ∀ w, (Go.sizeOf (ρ.t 23)).run P w = .ok 1 w
  v23 : ∀ w, (zeroValue (ρ.t 23)).run P w = .ok (Value.map none) w
  t26 : P.underlying (ρ.t 26) = some (TypeDesc.int IntKind.u16)
  a26 : ∀ w, (isAgg (ρ.t 26)).run P w = .ok false w
  z26 : ∀ w, (Go.sizeOf (ρ.t 26)).run P w = .ok 1 w
  v26 : ∀ w, (zeroValue (ρ.t 26)).run P w = .ok (Value.int IntKind.u16 0) w
  t33 : P.underlying (ρ.t 33) = some (TypeDesc.func #[ρ.t 26] #[ρ.t 4] false)
  a33 : ∀ w, (isAgg (ρ.t 33)).run P w = .ok false w
  z33 : ∀ w, (Go.sizeOf (ρ.t 33)).run P w = .ok 1 w
  v33 : ∀ w, (zeroValue (ρ.t 33)).run P w = .ok (Value.nilFunc) w
structure SlLaysZU.n8 (P : Program) (ρ : Ren) : Prop where
  mixed : P.follows .mixedOrders = true
  f8 : Bears P (ρ.f 8) (SlBodyZ.n8 ρ)
  f11 : Bears P (ρ.f 11) (SlBodyZ.n11 ρ)
  t0 : P.underlying (ρ.t 0) = some (TypeDesc.tuple #[])
  a0 : ∀ w, (isAgg (ρ.t 0)).run P w = .ok false w
  z0 : ∀ w, (Go.sizeOf (ρ.t 0)).run P w = .ok 1 w
  v0 : ∀ w, (zeroValue (ρ.t 0)).run P w = .ok (Value.tuple #[]) w
  t24 : P.underlying (ρ.t 24) = some (TypeDesc.slice (ρ.t 26))
  a24 : ∀ w, (isAgg (ρ.t 24)).run P w = .ok false w
  z24 : ∀ w, (Go.sizeOf (ρ.t 24)).run P w = .ok 1 w
  v24 : ∀ w, (zeroValue (ρ.t 24)).run P w = .ok (Value.slice none 0 0) w
  t26 : P.underlying (ρ.t 26) = some (TypeDesc.int IntKind.u16)
  a26 : ∀ w, (isAgg (ρ.t 26)).run P w = .ok false w
  z26 : ∀ w, (Go.sizeOf (ρ.t 26)).run P w = .ok 1 w
  v26 : ∀ w, (zeroValue (ρ.t 26)).run P w = .ok (Value.int IntKind.u16 0) w
  t28 : P.underlying (ρ.t 28) = some (TypeDesc.func #[ρ.t 33] #[] false)
  a28 : ∀ w, (isAgg (ρ.t 28)).run P w = .ok false w
  z28 : ∀ w, (Go.sizeOf (ρ.t 28)).run P w = .ok 1 w
  v28 : ∀ w, (zeroValue (ρ.t 28)).run P w = .ok (Value.nilFunc) w
  i26 : (P.info? (ρ.t 26)).map (fun i => (i.zero, i.size, i.bytes)) = some (some (.int .u16 0), 1, 2)
structure SlLaysZU.n11 (P : Program) (ρ : Ren) : Prop where
  mixed : P.follows .mixedOrders = true
  f11 : Bears P (ρ.f 11) (SlBodyZ.n11 ρ)
  t0 : P.underlying (ρ.t 0) = some (TypeDesc.tuple #[])
  a0 : ∀ w, (isAgg (ρ.t 0)).run P w = .ok false w
  z0 : ∀ w, (Go.sizeOf (ρ.t 0)).run P w = .ok 1 w
  v0 : ∀ w, (zeroValue (ρ.t 0)).run P w = .ok (Value.tuple #[]) w
  t24 : P.underlying (ρ.t 24) = some (TypeDesc.slice (ρ.t 26))
  a24 : ∀ w, (isAgg (ρ.t 24)).run P w = .ok false w
  z24 : ∀ w, (Go.sizeOf (ρ.t 24)).run P w = .ok 1 w
  v24 : ∀ w, (zeroValue (ρ.t 24)).run P w = .ok (Value.slice none 0 0) w
  t26 : P.underlying (ρ.t 26) = some (TypeDesc.int IntKind.u16)
  a26 : ∀ w, (isAgg (ρ.t 26)).run P w = .ok false w
  z26 : ∀ w, (Go.sizeOf (ρ.t 26)).run P w = .ok 1 w
  v26 : ∀ w, (zeroValue (ρ.t 26)).run P w = .ok (Value.int IntKind.u16 0) w
  t28 : P.underlying (ρ.t 28) = some (TypeDesc.func #[ρ.t 33] #[] false)
  a28 : ∀ w, (isAgg (ρ.t 28)).run P w = .ok false w
  z28 : ∀ w, (Go.sizeOf (ρ.t 28)).run P w = .ok 1 w
  v28 : ∀ w, (zeroValue (ρ.t 28)).run P w = .ok (Value.nilFunc) w
  i26 : (P.info? (ρ.t 26)).map (fun i => (i.zero, i.size, i.bytes)) = some (some (.int .u16 0), 1, 2)
variable {P : Program} {ρ : Ren}
set_option maxRecDepth 100000 in
set_option maxHeartbeats 1000000 in
theorem AnyZU.keys1N_in (L : SlLaysZU.n10 P ρ) {H : Type} (F : Fence) (n : Nat) (h10 : F.fn (ρ.f 10)) (hro : F.round = none) (hn : 1 ≤ n) (l Bm so b nn : Nat) (D0 : DataW H) {R : Value → Option (DataW H × List MemPlace)} (J : List Int → World → Prop)
    (hY : ∀ pre x W, J pre W → pre.length < Maps.size D0 → YieldAt F (n - 1) P l #[encU x] W fun e W' => e = .returned (.bool true) ∧ J (pre ++ [x]) W' ∧ KeepsWalks W W')
    (W : World) (hJ : AbidesFrom W.heap.size J) (hm : W.cell? ⟨Bm, so, none⟩ = some (.map (some b))) (hown : W.ownsMap P (ρ.t 26) R b nn D0) (h0 : J [] W) :
    CallsIn F n P (ρ.f 10) #[.func (.yield l) #[] #[], .pointer (some ⟨Bm, so, none⟩)] W fun e W' => (∃ v, e = .returned v) ∧ ∃ ss : List Int, ss.Perm (intKeysU D0) ∧ J ss W' := by
  have mixed := L.mixed; have t0 := L.t0; have a0 := L.a0; have z0 := L.z0; have v0 := L.v0; have t4 := L.t4; have a4 := L.a4; have z4 := L.z4; have v4 := L.v4; have t23 := L.t23; have a23 := L.a23; have z23 := L.z23; have v23 := L.v23; have t26 := L.t26; have a26 := L.a26; have z26 := L.z26; have v26 := L.v26; have t33 := L.t33; have a33 := L.a33; have z33 := L.z33; have v33 := L.v33
  have u0 := run_underlying L.t0; have u4 := run_underlying L.t4; have u23 := run_underlying L.t23; have u26 := run_underlying L.t26; have u33 := run_underlying L.t33
  obtain ⟨_, _, FG⟩ := L.f10
  refine callsIn_of_wp FG rfl h10 ?_ hro
  simp only [SlBodyZ.n10_ntmps ρ, List.size_toArray, List.length_cons, List.length_nil, Nat.reduceAdd, Nat.reduceSub, Array.replicate_succ, Array.replicate_zero, List.push_toArray, List.append_toArray, List.nil_append, List.cons_append]
  gi_wp2_with (first
    | (gi_at_range; refine wpListIn_range_own _ rfl _ (ρ.t 23) rfl (ρ.t 26) (ρ.t 3) (int_keyed L.t26) L.t23 _ b nn _ rfl hown ?_; intro w0 hrg0 hg0 hs0)
    | gi_in)
  go_frame
  gi_loopw [3] (fun _ wr => ∃ (left : Lit → Bool) (cnt : Nat) (ss : List Int), wr.ranges P (ρ.t 26) R b W.heap.size nn D0 left cnt ∧ ss.length + cnt ≤ Maps.size D0 ∧ CollectedU D0 left ss ∧ J ss wr)
    (fun _ wr => wr.rangeLeft b W.heap.size)
  case atStart =>
    exact ⟨_, _, [], hrg0, by simp, CollectedU.start D0, hJ [] W w0 none h0 hg0 (fun r e => by cases e)⟩
  case round =>
    obtain ⟨left, cnt, ss, hrg, hcs, hC, hJs⟩ := hrel
    gi_wp2_with (first
      | (gi_at_next; refine wpListIn_next_ranges _ rfl _ rfl (ρ.t 26) (int_keyed L.t26) R encU id (fun key kl hk => by obtain ⟨x, hx, _⟩ := Maps.keyOf_u16 L.t26 hk; exact ⟨x, hx⟩) (fun v _ _ => ⟨v, rfl⟩) b W.heap.size nn _ _ _ rfl hrg ?_ ?_)
      | gi_in)
    · -- NOTHING IS LEFT
      intro hc0 hl0
      gi_wp2
      go_end0
      exact ⟨⟨_, rfl⟩, ss, hC.perm hown (int_keyed L.t26) L.t26 hl0, hJs⟩
    · -- AN ENTRY HAS COME: yield(k)
      intro x c kl yd yp w2 cnt2 hkey hlk hv hat hrg2 hlt hg2 hs2 hen
      obtain ⟨x', ex, rfl, _⟩ := Maps.keyOf_u16 L.t26 hkey
      obtain rfl : x = x' := encU_inj ex
      have hJ2 : J ss w2 := hJ ss wr w2 (some W.heap.size) hJs hg2 (fun r e => by cases e; exact ⟨Nat.le_refl _, hrg.iter_walk⟩)
      obtain ⟨fn, tmps, assign, body, hy, hR⟩ := hY ss x w2 hJ2 (by omega)
      clear hs2
      gi_wp2
      refine hR.mono ?_
      rintro e W3 ⟨rfl, hJ3, hk3⟩
      gi_wp2
      have hrg3 := hrg2.of_walks hk3
      go_roundw
      case rel => exact ⟨_, cnt2, ss ++ [x], hrg3, by simp; omega, hC.step hlk hat, hJ3⟩
      case measure => rw [hrg3.left_eq, hrg.left_eq]; exact hlt
theorem AnyZU.keys_gives (L : SlLaysZU.n10 P ρ) {H : Type} (F : Fence) (n : Nat) (h10 : F.fn (ρ.f 10)) (hro : F.round = none) (hn : 1 ≤ n) (Bm so b nn : Nat) (D0 : DataW H) {R : Value → Option (DataW H × List MemPlace)} (w : World) (hBm : Bm < w.heap.size)
    (hm : w.cell? ⟨Bm, so, none⟩ = some (.map (some b))) (hown : w.ownsMap P (ρ.t 26) R b nn D0) :
    SeqGives F n P (ρ.f 10) #[.pointer (some ⟨Bm, so, none⟩)] encU (fun ss => ss.Perm (intKeysU D0)) (Maps.size D0) w := fun l J W hW hJ hY h0 => by
  have hown' : W.ownsMap P (ρ.t 26) R b nn D0 := by
    have hbl := hown.lt
    obtain ⟨es, clock, hb, Ft, hs, hD⟩ := hown
    exact ⟨es, clock, (hW.block b hbl).trans hb, Ft, hs, hD⟩
  exact AnyZU.keys1N_in { L with } F n h10 hro hn l Bm so b nn D0 J hY W hJ ((hW.cell (p := ⟨Bm, so, none⟩) hBm).trans hm) hown' h0
def AnyZU.apAssign (ρ : Ren) : Code := (Code.region 2 #[{ dst := some 5, op := Op.assign (Operand.tmp 7), type := ρ.t 26, pos := "iter.go:51", after := #[], guard := none }] false)
def AnyZU.apBody (ρ : Ren) : Code := (Code.block 1 (Code.region 3 #[{ dst := some 8, op := Op.load (ρ.t 24) (Operand.tmp 2), type := ρ.t 24, pos := "iter.go:52", after := #[], guard := none }, { dst := some 9, op := Op.move (Operand.tmp 5), type := ρ.t 26, pos := "iter.go:52", after := #[], guard := none }, { dst := some 10, op := Op.buildSlice (ρ.t 24) 1 #[(0, Operand.tmp 9)], type := ρ.t 24, pos := "iter.go:52", after := #[{ on := 1, ground := Ground.data }], guard := none }, { dst := some 11, op := Op.call { callee := Callee.builtin Builtin.append, args := #[Operand.tmp 8, Operand.tmp 10], argTypes := #[ρ.t 24, ρ.t 24] }, type := ρ.t 24, pos := "iter.go:52", after := #[{ on := 0, ground := Ground.data }, { on := 2, ground := Ground.data }], guard := none }, { dst := none, op := Op.store (ρ.t 24) (Operand.tmp 2) (Operand.tmp 11), type := ρ.t 0, pos := "iter.go:52", after := #[{ on := 3, ground := Ground.data }, { on := 3, ground := Ground.chain }, { on := 0, ground := Ground.phase }, { on := 1, ground := Ground.phase }, { on := 2, ground := Ground.phase }, { on := 3, ground := Ground.phase }], guard := none }] false))
def AnyZU.apRec (ρ : Ren) (fn : FuncId) (sv : Value) (Bs D : Nat) (st : LoopState) (pend : Option Code) : Loop :=
  { state := st, pending := pend, fn, tmps := #[.slice none 0 0, sv, .pointer (some ⟨Bs, 0, none⟩), undef, .slice none 0 0, undef, sv, undef, undef, undef, undef, undef, undef], params := #[7], assign := AnyZU.apAssign ρ, body := AnyZU.apBody ρ, defers := D }
structure AnyZU.ApAt (ρ : Ren) (w0 : World) (fn : FuncId) (sv : Value) (Bs l D : Nat) (ss : List Int) (W : World) : Prop where
  box : ∃ v, W.heap[Bs]? = some (.cells #[v] (ρ.t 24) (0, 0)) ∧ W.ownsRow w0.heap.size (ρ.t 26) 1 v ss.length (ss.map encU) ∧ (v = .slice none 0 0 ↔ ss = [])
  L : W.heap[l]? = some (.loop (AnyZU.apRec ρ fn sv Bs D .ready none))
  K : W.heap[D]? = some (.deferred (some []))
  below : Below w0.heap.size w0 W
theorem AnyZU.ap_abides (ρ : Ren) (w0 : World) (fn : FuncId) (sv : Value) (Bs l D B : Nat) (hB : w0.heap.size ≤ B) : AbidesFrom B (AnyZU.ApAt ρ w0 fn sv Bs l D) := fun s W W' row h hg hrow => by
  have hrow' : ∀ r, row = some r → ∃ o : Obj, W.heap[r]? = some o ∧ o.isWalk = true := fun r e => (hrow r e).2
  obtain ⟨v, hv, hr, hn⟩ := h.box
  exact ⟨⟨v, (grownBy_keeps hg hrow' hv rfl).trans hv, ownsRow_abides_a hr hg hrow', hn⟩, (grownBy_keeps hg hrow' h.L rfl).trans h.L, (grownBy_keeps hg hrow' h.K rfl).trans h.K,
    h.below.grown hg h.below.size (fun k e => Nat.le_trans hB (hrow k e).1)⟩
set_option maxRecDepth 100000 in
set_option maxHeartbeats 2000000 in
theorem AnyZU.apYield (L : SlLaysZU.n11 P ρ) (F : Fence) (m : Nat) (w0 : World) (fn : FuncId) (hfn : F.fn fn) (sv : Value) (Bs l D : Nat) (hBl : Bs ≠ l) (hDl : D ≠ l) (hDB : D ≠ Bs) (h0B : w0.heap.size ≤ Bs) (h0l : w0.heap.size ≤ l)
    (N : Nat) (hN : N ≤ maxLen) (hNb : N * 2 ≤ 140737488355328) (ss : List Int) (x : Int) (W : World) (h : AnyZU.ApAt ρ w0 fn sv Bs l D ss W) (hlen : ss.length < N) :
    YieldAt F m P l #[encU x] W fun e W' => e = .returned (.bool true) ∧ AnyZU.ApAt ρ w0 fn sv Bs l D (ss ++ [x]) W' ∧ KeepsWalks W W' := by
  have mixed := L.mixed; have t0 := L.t0; have a0 := L.a0; have z0 := L.z0; have v0 := L.v0; have t24 := L.t24; have a24 := L.a24; have z24 := L.z24; have v24 := L.v24; have t26 := L.t26; have a26 := L.a26; have z26 := L.z26; have v26 := L.v26; have t28 := L.t28; have a28 := L.a28; have z28 := L.z28; have v28 := L.v28
  have hne : ρ.t 24 ≠ ρ.t 26 := fun e => by have h := L.t24; rw [e, L.t26] at h; cases h
  have u0 := run_underlying L.t0; have u24 := run_underlying L.t24; have u26 := run_underlying L.t26; have u28 := run_underlying L.t28
  obtain ⟨i0, hi, hz0, hz1, hz2⟩ := info_parts L.i26
  obtain ⟨v, hv, hrow, _⟩ := h.box
  refine ⟨fn, #[.slice none 0 0, sv, .pointer (some ⟨Bs, 0, none⟩), undef, .slice none 0 0, undef, sv, encU x, undef, undef, undef, undef, undef], AnyZU.apAssign ρ, AnyZU.apBody ρ, by simpa [AnyZU.apRec] using run_yield (P := P) (args := #[encU x]) h.L rfl, roundIn_of_wpIn hfn ?_⟩
  have hl : l < W.heap.size := (Array.getElem?_eq_some_iff.1 h.L).1
  have hbr := run_beginRound (P := P) h.L rfl
  obtain ⟨W2, hW2⟩ : ∃ W2, W.putObj l (.loop { AnyZU.apRec ρ fn sv Bs D .ready none with state := .busy }) = W2 := ⟨_, rfl⟩
  rw [hW2] at hbr
  have hg2 : W.grownBy W2 (some l) := by rw [← hW2]; exact grownBy_putObj_a _ _ _
  have hk2 : KeepsWalks W W2 := by rw [← hW2]; exact KeepsWalks.putObj _ h.L rfl
  have hv2 : W2.heap[Bs]? = some (.cells #[v] (ρ.t 24) (0, 0)) := by rw [← hW2]; exact (World.putObj_heap_other hBl).trans hv
  have hK2 : W2.heap[D]? = some (.deferred (some [])) := by rw [← hW2]; exact (World.putObj_heap_other hDl).trans h.K
  have hL2 : W2.heap[l]? = some (.loop { AnyZU.apRec ρ fn sv Bs D .ready none with state := .busy }) := by rw [← hW2]; exact World.putObj_heap_same hl
  have hrow2 : W2.ownsRow w0.heap.size (ρ.t 26) 1 v ss.length (ss.map encU) := hrow.kept hg2 (ownsRow_ne_a hrow h.L (fun cur e => by first | cases e | exact hne (Obj.cells.inj e).2.1))
  have hb2 : Below w0.heap.size w0 W2 := h.below.grown hg2 h.below.size (fun k e => by cases e; exact h0l)
  obtain ⟨hc2, hf2⟩ := cell_of_box_a hv2
  have hBlt : Bs < W2.heap.size := (Array.getElem?_eq_some_iff.1 hv2).1
  have hl2 : l < W2.heap.size := (Array.getElem?_eq_some_iff.1 hL2).1
  have hDlt : D < W2.heap.size := (Array.getElem?_eq_some_iff.1 hK2).1
  have ne_of : ∀ {j : Nat} {o : Obj}, W2.heap[j]? = some o → (∀ cur, o ≠ .cells cur (ρ.t 26) (0, 0)) → some j ≠ v.ownBlock := fun hj hno => by
    rcases ownsRow_ne_a hrow2 hj hno with e | e
    · rw [e]; simp
    · exact fun e' => e e'.symm
  clear hW2
  unfold AnyZU.apAssign
  gi_wp2_with gi_round_op_a
  unfold AnyZU.apBody
  gi_wp2_with (first
    | (gi_at_builtin; refine wpListIn_append_own _ rfl _ _ (ρ.t 24) rfl w0.heap.size (ρ.t 26) i0 (.int .u16 0) 1 2 L.t24 hi hz0 hz1 hz2 rfl (by decide) _ _ _ rfl (hrow2.alloc _) ⟨W2.heap.size, 0, none⟩ 1 1 [encU x] rfl rfl (cell_one_new _ _ _) (by simp [Value.oneCell', encU]) (by omega) (by omega) (by have := hb2.size; simp; omega) ?_; intro v' w3 hown' hg3 hnil3
       have hv3 : w3.heap[Bs]? = some (.cells #[v] (ρ.t 24) (0, 0)) := (hg3.block Bs (by simp; omega) (ne_of hv2 (fun cur e => by first | cases e | exact hne (Obj.cells.inj e).2.1))).trans ((Below.heap_alloc _ _ Bs hBlt).trans hv2)
       obtain ⟨hc3, hf3⟩ := cell_of_box_a hv3
       obtain ⟨g', cap', cur', rfl, hbase', hgb', hr1, hr2, hr3, hr4⟩ : ∃ g' cap' cur', v' = .slice (some ⟨g', 0, none⟩) (ss.length + 1) cap' ∧ w0.heap.size ≤ g' ∧ w3.heap[g']? = some (.cells cur' (ρ.t 26) (0, 0)) ∧ ss.length + 1 ≤ cap' ∧ cap' ≤ maxLen ∧ cur'.size = cap' * 1 ∧ cur'.toList.take ((ss.length + 1) * 1) = ss.map encU ++ [encU x] := by
         rcases hown'.2 with ⟨_, h0⟩ | h'
         · exact absurd h0 (by omega)
         · exact h'
       go_frame)
    | gi_round_op_a)
  have hg3' : (W2.alloc (.cells #[encU x] (ρ.t 26))).grownBy w3 v.ownBlock := hg3
  have hL3 : w3.heap[l]? = some (.loop { AnyZU.apRec ρ fn sv Bs D .ready none with state := .busy }) := (hg3'.block l (by simp; omega) (ne_of hL2 (fun cur e => by first | cases e | exact hne (Obj.cells.inj e).2.1))).trans ((Below.heap_alloc _ _ l hl2).trans hL2)
  have hK3 : w3.heap[D]? = some (.deferred (some [])) := (hg3'.block D (by simp; omega) (ne_of hK2 (fun cur e => by first | cases e | exact hne (Obj.cells.inj e).2.1))).trans ((Below.heap_alloc _ _ D hDlt).trans hK2)
  obtain ⟨w4, hw4⟩ : ∃ w4, w3.setCell ⟨Bs, 0, none⟩ (.slice (some ⟨g', 0, none⟩) (ss.length + 1) cap') = w4 := ⟨_, rfl⟩
  rw [hw4]
  have hg4 : w3.grownBy w4 (some Bs) := by rw [← hw4]; exact grownBy_setCell0_a _ _ _
  have hv4 : w4.heap[Bs]? = some (.cells #[.slice (some ⟨g', 0, none⟩) (ss.length + 1) cap'] (ρ.t 24) (0, 0)) := by rw [← hw4]; exact heap_setCell_box_a _ hv3
  have hL4 : w4.heap[l]? = some (.loop { AnyZU.apRec ρ fn sv Bs D .ready none with state := .busy }) := (hg4.block l (Array.getElem?_eq_some_iff.1 hL3).1 (fun e => hBl (by cases e; rfl))).trans hL3
  have hK4 : w4.heap[D]? = some (.deferred (some [])) := (hg4.block D (Array.getElem?_eq_some_iff.1 hK3).1 (fun e => hDB (by cases e; rfl))).trans hK3
  have hrow4 := hown'.kept hg4 (ownsRow_ne_a hown' hv3 (fun cur e => by first | cases e | exact hne (Obj.cells.inj e).2.1))
  have hl4 : l < w4.heap.size := (Array.getElem?_eq_some_iff.1 hL4).1
  have hb3 : Below w0.heap.size w0 w3 := (hb2.alloc hb2.size _).grown hg3' (by have := hb2.size; simp; omega) (fun k e => (hrow2.lt k e).1)
  have hb4 : Below w0.heap.size w0 w4 := hb3.grown hg4 hb3.size (fun k e => by cases e; exact h0B)
  have hk4 : KeepsWalks W w4 := ((hk2.trans (KeepsWalks.alloc _ _)).trans (KeepsWalks.of_grownBy hg3' (ownsRow_not_walk_a (hrow2.alloc _)))).trans (by rw [← hw4]; exact KeepsWalks.setCell _ _ _)
  clear hw4
  refine ⟨_, _, run_endRound none hL4, rfl, ⟨⟨_, (World.putObj_heap_other hBl).trans hv4, ?_, by simp⟩, World.putObj_heap_same hl4, (World.putObj_heap_other hDl).trans hK4, hb4.grown (grownBy_putObj_a _ _ _) hb4.size (fun k e => by cases e; exact h0l)⟩, hk4.trans (KeepsWalks.putObj _ hL4 rfl)⟩
  have := hrow4.kept (grownBy_putObj_a w4 l (.loop { { AnyZU.apRec ρ fn sv Bs D .ready none with state := .busy } with state := if (none : Option Code).isNone then .ready else .done, pending := none })) (ownsRow_ne_a hrow4 hL4 (fun cur e => by first | cases e | exact hne (Obj.cells.inj e).2.1))
  simpa using this
set_option maxRecDepth 100000 in
set_option maxHeartbeats 2000000 in
theorem AnyZU.appendSeq_in (L : SlLaysZU.n11 P ρ) (F : Fence) (n : Nat) (h11 : F.fn (ρ.f 11)) (hro : F.round = none) (hn : 2 ≤ n) (g : Nat) (lb : Array Value) (hFg : F.fn g) (eg : ∀ args w, (callFunc g args).run P w = .ok (.enter g args) w)
    (S : List Int → Prop) (N : Nat) (hN : N ≤ maxLen) (hNb : N * 2 ≤ 140737488355328) (w : World) (hseq : SeqGives F (n - 1) P g lb encU S N w) :
    CallsIn F n P (ρ.f 11) #[.slice none 0 0, .func (.func g) #[] lb] w fun e w' => ∃ (v : Value) (ss : List Int), e = .returned v ∧ S ss ∧ w'.ownsRow w.heap.size (ρ.t 26) 1 v ss.length (ss.map encU) ∧ (v = .slice none 0 0 ↔ ss = []) ∧ Below w.heap.size w w' := by
  have h1 : 1 ≤ n := by omega
  have mixed := L.mixed; have t0 := L.t0; have a0 := L.a0; have z0 := L.z0; have v0 := L.v0; have t24 := L.t24; have a24 := L.a24; have z24 := L.z24; have v24 := L.v24; have t26 := L.t26; have a26 := L.a26; have z26 := L.z26; have v26 := L.v26; have t28 := L.t28; have a28 := L.a28; have z28 := L.z28; have v28 := L.v28
  have hne : ρ.t 24 ≠ ρ.t 26 := fun e => by have h := L.t24; rw [e, L.t26] at h; cases h
  have u0 := run_underlying L.t0; have u24 := run_underlying L.t24; have u26 := run_underlying L.t26; have u28 := run_underlying L.t28
  obtain ⟨_, _, FG⟩ := L.f11
  refine callsIn_of_wp_marks FG rfl h11 ?_ hro
  simp only [SlBodyZ.n11_ntmps ρ, List.size_toArray, List.length_cons, List.length_nil, Nat.reduceAdd, Nat.reduceSub, Array.replicate_succ, Array.replicate_zero, List.push_toArray, List.append_toArray, List.nil_append, List.cons_append]
  gi_wp2
  refine wpIn_rangeFunc ?_
  intro fn hfn
  rw [hro]
  obtain ⟨W0, hW0⟩ : ∃ W0, w.alloc (.cells #[.slice none 0 0] (ρ.t 24)) = W0 := ⟨_, rfl⟩
  have hs0 : W0.heap.size = w.heap.size + 1 := by rw [← hW0]; simp
  have hv0 : W0.heap[w.heap.size]? = some (.cells #[.slice none 0 0] (ρ.t 24) (0, 0)) := by rw [← hW0]; exact World.alloc_heap_new w _
  have hb0 : Below w.heap.size w W0 := by rw [← hW0]; exact (Below.refl _ w).alloc (Nat.le_refl _) _
  rw [hW0]
  obtain ⟨W1, hW1⟩ : ∃ W1, (W0.alloc (.deferred (some []))).alloc (.loop (AnyZU.apRec ρ fn (.func (.func g) #[] lb) w.heap.size W0.heap.size .ready none)) = W1 := ⟨_, rfl⟩
  have hold : ∀ k, k < W0.heap.size → W1.heap[k]? = W0.heap[k]? := fun k hk => by
    rw [← hW1]; exact (Below.heap_alloc _ _ k (by simp; omega)).trans (Below.heap_alloc _ _ k hk)
  have hb1 : Below w.heap.size w W1 := by rw [← hW1]; exact (hb0.alloc hb0.size _).alloc (by have := hb0.size; simp; omega) _
  have hs1 : W1.heap.size = W0.heap.size + 2 := by rw [← hW1]; simp
  have hM : AnyZU.ApAt ρ w fn (.func (.func g) #[] lb) w.heap.size (W0.heap.size + 1) W0.heap.size [] W1 :=
    ⟨⟨_, (hold w.heap.size (by omega)).trans hv0, ⟨rfl, .inl ⟨rfl, rfl⟩⟩, by simp⟩,
     by rw [← hW1]; have := World.alloc_heap_new (W0.alloc (.deferred (some []))) (.loop (AnyZU.apRec ρ fn (.func (.func g) #[] lb) w.heap.size W0.heap.size .ready none)); rwa [World.size_alloc] at this,
     by rw [← hW1]; exact (Below.heap_alloc _ _ _ (by simp)).trans (World.alloc_heap_new W0 _), hb1⟩
  refine ⟨W0.heap.size + 1, [{ target := .collected W0.heap.size, args := #[] }], W1, { target := .fn (.func g) lb, args := #[.func (.yield (W0.heap.size + 1)) #[] #[]] }, W1, g,
    #[.func (.yield (W0.heap.size + 1)) #[] #[]] ++ lb, W1, ?_, ?_, ?_, ?_, fun _ => h1, ?_⟩
  · rw [← hW1]; exact run_enterLoop_outer _ _ _ _ _
  · simp [resolve, go_sem]
  · intro f' hf'; simp [Target.leads] at hf'; subst hf'; exact hFg
  · simp [invoke, go_sem, eg]
  · refine (hseq (W0.heap.size + 1) (AnyZU.ApAt ρ w fn (.func (.func g) #[] lb) w.heap.size (W0.heap.size + 1) W0.heap.size) W1 hb1 (AnyZU.ap_abides ρ _ _ _ _ _ _ _ hb1.size)
      (fun pre x W hJ hl => AnyZU.apYield { L with } F (n - 1 - 1) w fn hfn _ w.heap.size (W0.heap.size + 1) W0.heap.size (by omega) (by omega) (by omega) (Nat.le_refl _) (by omega) N hN hNb pre x W hJ hl) hM).mono ?_
    rintro e W2 ⟨⟨v0, rfl⟩, ss, hS, h2⟩
    obtain ⟨v, hv, hrow, hnil⟩ := h2.box
    have hend := run_endLoop (P := P) h2.L (by simp [AnyZU.apRec])
    obtain ⟨W3, hW3⟩ : ∃ W3, W2.putObj (W0.heap.size + 1) (.loop { AnyZU.apRec ρ fn (.func (.func g) #[] lb) w.heap.size W0.heap.size .ready none with state := .exhausted }) = W3 := ⟨_, rfl⟩
    rw [hW3] at hend
    have hg3 : W2.grownBy W3 (some (W0.heap.size + 1)) := by rw [← hW3]; exact grownBy_putObj_a _ _ _
    have hv3 : W3.heap[w.heap.size]? = some (.cells #[v] (ρ.t 24) (0, 0)) := by rw [← hW3]; exact (World.putObj_heap_other (by omega)).trans hv
    have hK3 : W3.heap[W0.heap.size]? = some (.deferred (some [])) := by rw [← hW3]; exact (World.putObj_heap_other (by omega)).trans h2.K
    have hrow3 := hrow.kept hg3 (ownsRow_ne_a hrow h2.L (fun cur e => by first | cases e | exact hne (Obj.cells.inj e).2.1))
    have hb3 : Below w.heap.size w W3 := h2.below.grown hg3 h2.below.size (fun k e => by cases e; omega)
    obtain ⟨hc3, hf3⟩ := cell_of_box_a hv3
    clear hW3
    refine ⟨none, W3, hend, ?_⟩
    gi_wp2
    rw [← hs0]
    refine ⟨by simp, .inl ⟨_, _, rfl, run_takeDeferred hK3, ?_⟩⟩
    exact ⟨_, results_tmp rfl _ _ _, v, ss, rfl, hS, hrow3.kept (grownBy_putObj_a _ _ _) (ownsRow_ne_a hrow3 hK3 (fun cur e => by first | cases e | exact hne (Obj.cells.inj e).2.1)), hnil, hb3.grown (grownBy_putObj_a _ _ _) hb3.size (fun k e => by cases e; omega)⟩
set_option maxHeartbeats 1000000 in
theorem AnyZU.collect_in (L : SlLaysZU.n8 P ρ) (F : Fence) (n : Nat) (h8 : F.fn (ρ.f 8)) (h11 : F.fn (ρ.f 11)) (hro : F.round = none) (hn : 3 ≤ n) (g : Nat) (lb : Array Value) (hFg : F.fn g) (eg : ∀ args w, (callFunc g args).run P w = .ok (.enter g args) w)
    (S : List Int → Prop) (N : Nat) (hN : N ≤ maxLen) (hNb : N * 2 ≤ 140737488355328) (w : World) (hseq : SeqGives F (n - 1 - 1) P g lb encU S N w) :
    CallsIn F n P (ρ.f 8) #[.func (.func g) #[] lb] w fun e w' => ∃ (v : Value) (ss : List Int), e = .returned v ∧ S ss ∧ w'.ownsRow w.heap.size (ρ.t 26) 1 v ss.length (ss.map encU) ∧ (v = .slice none 0 0 ↔ ss = []) ∧ Below w.heap.size w w' := by
  have h1 : 1 ≤ n := by omega
  have e11 : ∀ args w, (callFunc (ρ.f 11) args).run P w = .ok (.enter (ρ.f 11) args) w := L.f11.enters rfl
  have mixed := L.mixed; have t0 := L.t0; have a0 := L.a0; have z0 := L.z0; have v0 := L.v0; have t24 := L.t24; have a24 := L.a24; have z24 := L.z24; have v24 := L.v24; have t26 := L.t26; have a26 := L.a26; have z26 := L.z26; have v26 := L.v26; have t28 := L.t28; have a28 := L.a28; have z28 := L.z28; have v28 := L.v28
  have u0 := run_underlying L.t0; have u24 := run_underlying L.t24; have u26 := run_underlying L.t26; have u28 := run_underlying L.t28
  obtain ⟨_, _, FG⟩ := L.f8
  refine callsIn_of_wp FG rfl h8 ?_ hro
  simp only [SlBodyZ.n8_ntmps ρ, List.size_toArray, List.length_cons, List.length_nil, Nat.reduceAdd, Nat.reduceSub, Array.replicate_succ, Array.replicate_zero, List.push_toArray, List.append_toArray, List.nil_append, List.cons_append]
  gi_wp2_with (gi_at_fn (ρ.f 11); refine (AnyZU.appendSeq_in { L with } F (n - 1) h11 hro (by omega) g lb hFg eg S N hN hNb _ hseq).mono ?_; rintro e w' ⟨v, ss, rfl, hS, hrow, hnil, hb⟩)
  go_ret
  exact ⟨v, ss, rfl, hS, hrow, hnil, hb⟩
end Go.Proofs
